/- The document's digest: one of the 64 rounds. -/
import Derived.Test.YtgdpbnmhhbnkgaaDoorRefBlk
namespace Go.Proofs.YtgdpbnmhhbnkgaaDoor.Cod
open Go.RowKit
set_option maxHeartbeats 8000000 in
set_option maxRecDepth 1000000 in
theorem G_block {K : Act → World → Prop} {Q' : Exit → Act → World → Prop} {u0 u1 u2 u3 u4 u5 u6 u8 u10 u11 u12 u13 u14 u15 u18 u19 u20 u21 u22 u23 u24 u25 u26 u27 u28 u29 u30 u31 u32 u33 u34 u35 u36 u37 u38 u39 u40 u41 u42 u43 u44 u45 u46 u47 u48 u49 u50 u51 u52 u53 u54 u55 u56 u57 u58 u59 u60 u61 u62 u63 u64 u65 u66 u67 u68 u69 u70 u71 u72 u73 u74 u75 u76 u77 u78 u79 u80 u81 u82 u83 u84 u85 u86 u87 u88 u89 u90 u91 u92 u93 u94 u95 u96 u97 u98 u99 u100 u101 u102 u103 u104 u105 u106 u107 u108 u109 u110 u111 u112 u113 u114 u115 u116 u117 u118 u119 u120 u121 u122 u123 u124 u125 u126 u127 u128 u129 u130 u131 u132 u133 u134 u135 u136 u137 u138 u139 u140 u141 u142 u143 u144 u145 u146 u147 u148 u149 u150 u151 u152 u153 u154 u155 u156 u157 u158 u159 u160 u161 u162 u163 u164 u165 u166 u167 u168 u169 u170 u171 u172 u173 u174 u175 u176 u177 u178 u179 u180 u181 u182 u183 u184 u185 u186 u187 u188 u189 u190 u191 u192 u193 u194 u195 u196 u197 u198 u199 u200 u201 u202 u203 u204 u205 u206 u207 u208 u209 u210 u211 u212 u213 u214 u215 u216 u217 u218 u219 u220 u221 u222 u223 u224 u225 u226 u227 u228 u229 u230 u231 u232 u233 u234 u235 u236 u237 u238 u239 u240 u241 u242 u243 u244 u245 u246 u247 u248 u249 u250 u251 u252 u253 u254 u255 u256 u257 u258 u259 u260 u261 u262 u263 u264 u265 u266 u267 u268 u269 u270 u271 u272 u273 u274 u275 u276 u277 u278 u279 u280 u281 u282 u283 u284 u285 u286 u287 u288 u289 u290 u291 u292 u293 u294 u295 u296 u297 u298 u299 u300 u301 u302 u303 u304 u305 u306 u307 u308 u309 u310 u311 u312 u313 u314 u315 u316 u317 u318 u319 u320 u321 u322 u323 u324 u325 : Value} {ds : List Deferred} {wf wr : World} {gv cv g cap kb k wk kk : Nat} {y0 y1 y2 y3 y4 y5 y6 y7 : Nat} (R : S8) (hrd : R = rnd ⟨y0, y1, y2, y3, y4, y5, y6, y7⟩ (kk, wk)) (hlt : k < 64) (hb1 : Below wf.heap.size wf wr)
    (o0 : y0 < 4294967296) (o1 : y1 < 4294967296) (o2 : y2 < 4294967296) (o3 : y3 < 4294967296) (o4 : y4 < 4294967296) (o5 : y5 < 4294967296) (o6 : y6 < 4294967296) (o7 : y7 < 4294967296) (lw : wk < 4294967296) (lk : kk < 4294967296)
    (d0 : wr.cell? ⟨gv, 0, none⟩ = some (.int .u64 (y0 : Nat))) (d1 : wr.cell? ⟨gv, 1, none⟩ = some (.int .u64 (y1 : Nat))) (d2 : wr.cell? ⟨gv, 2, none⟩ = some (.int .u64 (y2 : Nat))) (d3 : wr.cell? ⟨gv, 3, none⟩ = some (.int .u64 (y3 : Nat))) (d4 : wr.cell? ⟨gv, 4, none⟩ = some (.int .u64 (y4 : Nat))) (d5 : wr.cell? ⟨gv, 5, none⟩ = some (.int .u64 (y5 : Nat))) (d6 : wr.cell? ⟨gv, 6, none⟩ = some (.int .u64 (y6 : Nat))) (d7 : wr.cell? ⟨gv, 7, none⟩ = some (.int .u64 (y7 : Nat)))
    (cw : wr.cell? ⟨g, k, none⟩ = some (.int .u64 (wk : Nat))) (ck : wr.cell? ⟨kb, k, none⟩ = some (.int .u64 (kk : Nat)))
    (hK : ∀ (gz : Nat) (wz : World) (x18 x19 x20 x21 x22 x23 x163 x164 x165 x166 x167 x168 x169 x170 x171 x172 x173 x174 x175 x176 x177 x178 x179 x180 x181 x182 x183 x184 x185 x186 x187 x188 x189 x190 x191 x192 x193 x194 x195 x196 x197 x198 x199 x200 x201 x202 x203 x204 x205 x206 x207 x208 x209 x210 x211 x212 x213 x214 x215 x216 x217 x218 x219 x220 x221 x222 x223 x224 x225 x226 x227 x228 x229 x230 x231 x232 x233 x234 x235 x236 x237 x238 x239 x240 x241 x242 x243 x244 x245 x246 x247 x248 x249 x250 x251 x252 x253 x254 x255 x256 x257 x258 x259 x260 x261 x262 x263 x264 x265 x266 x267 x268 x269 x270 x271 x272 x273 x274 x275 x276 x277 x278 x279 x280 : Value), Below wf.heap.size wf wz → wf.heap.size ≤ gz → (∀ (j : Nat) u, (wl R.list)[j]? = some u → wz.cell? ⟨gz, j, none⟩ = some u) → K ⟨(u0 :: u1 :: u2 :: u3 :: u4 :: u5 :: u6 :: .slice (some ⟨kb, 0, none⟩) 64 64 :: u8 :: .slice (some ⟨g, 0, none⟩) 64 cap :: u10 :: u11 :: u12 :: u13 :: u14 :: u15 :: .slice (some ⟨gz, 0, none⟩) 8 8 :: .int .i64 (k : Int) :: x18 :: x19 :: x20 :: x21 :: x22 :: x23 :: u24 :: u25 :: u26 :: u27 :: u28 :: u29 :: u30 :: u31 :: u32 :: u33 :: u34 :: u35 :: u36 :: u37 :: u38 :: u39 :: u40 :: u41 :: u42 :: u43 :: u44 :: u45 :: u46 :: u47 :: u48 :: u49 :: u50 :: u51 :: u52 :: u53 :: u54 :: u55 :: u56 :: u57 :: u58 :: u59 :: u60 :: u61 :: u62 :: u63 :: u64 :: u65 :: u66 :: u67 :: u68 :: u69 :: u70 :: u71 :: u72 :: u73 :: u74 :: u75 :: u76 :: u77 :: u78 :: u79 :: u80 :: u81 :: u82 :: u83 :: u84 :: u85 :: u86 :: u87 :: u88 :: u89 :: u90 :: u91 :: u92 :: u93 :: u94 :: u95 :: u96 :: u97 :: u98 :: u99 :: u100 :: u101 :: u102 :: u103 :: u104 :: u105 :: u106 :: u107 :: u108 :: u109 :: u110 :: u111 :: u112 :: u113 :: u114 :: u115 :: u116 :: u117 :: u118 :: u119 :: u120 :: u121 :: u122 :: u123 :: u124 :: u125 :: u126 :: u127 :: u128 :: u129 :: u130 :: u131 :: u132 :: u133 :: u134 :: u135 :: u136 :: u137 :: u138 :: u139 :: u140 :: u141 :: u142 :: u143 :: u144 :: u145 :: u146 :: u147 :: u148 :: u149 :: u150 :: u151 :: u152 :: u153 :: u154 :: u155 :: u156 :: u157 :: u158 :: u159 :: u160 :: u161 :: u162 :: x163 :: x164 :: x165 :: x166 :: x167 :: x168 :: x169 :: x170 :: x171 :: x172 :: x173 :: x174 :: x175 :: x176 :: x177 :: x178 :: x179 :: x180 :: x181 :: x182 :: x183 :: x184 :: x185 :: x186 :: x187 :: x188 :: x189 :: x190 :: x191 :: x192 :: x193 :: x194 :: x195 :: x196 :: x197 :: x198 :: x199 :: x200 :: x201 :: x202 :: x203 :: x204 :: x205 :: x206 :: x207 :: x208 :: x209 :: x210 :: x211 :: x212 :: x213 :: x214 :: x215 :: x216 :: x217 :: x218 :: x219 :: x220 :: x221 :: x222 :: x223 :: x224 :: x225 :: x226 :: x227 :: x228 :: x229 :: x230 :: x231 :: x232 :: x233 :: x234 :: x235 :: x236 :: x237 :: x238 :: x239 :: x240 :: x241 :: x242 :: x243 :: x244 :: x245 :: x246 :: x247 :: x248 :: x249 :: x250 :: x251 :: x252 :: x253 :: x254 :: x255 :: x256 :: x257 :: x258 :: x259 :: x260 :: x261 :: x262 :: x263 :: x264 :: x265 :: x266 :: x267 :: x268 :: x269 :: x270 :: x271 :: x272 :: x273 :: x274 :: x275 :: x276 :: x277 :: x278 :: x279 :: x280 :: u281 :: u282 :: u283 :: u284 :: u285 :: u286 :: u287 :: u288 :: u289 :: u290 :: u291 :: u292 :: u293 :: u294 :: u295 :: u296 :: u297 :: u298 :: u299 :: u300 :: u301 :: u302 :: u303 :: u304 :: u305 :: u306 :: u307 :: u308 :: u309 :: u310 :: u311 :: u312 :: u313 :: u314 :: u315 :: u316 :: u317 :: u318 :: u319 :: u320 :: u321 :: u322 :: u323 :: u324 :: u325 :: []).toArray, ds⟩ wz) :
    (Code.block 13 (blk Tryd.f31 13)).wp Tryd.prog (Exit.then K Q') ⟨(u0 :: u1 :: u2 :: u3 :: u4 :: u5 :: u6 :: .slice (some ⟨kb, 0, none⟩) 64 64 :: u8 :: .slice (some ⟨g, 0, none⟩) 64 cap :: u10 :: u11 :: u12 :: u13 :: u14 :: u15 :: .slice (some ⟨gv, 0, none⟩) 8 cv :: .int .i64 (k : Int) :: u18 :: u19 :: u20 :: u21 :: u22 :: u23 :: u24 :: u25 :: u26 :: u27 :: u28 :: u29 :: u30 :: u31 :: u32 :: u33 :: u34 :: u35 :: u36 :: u37 :: u38 :: u39 :: u40 :: u41 :: u42 :: u43 :: u44 :: u45 :: u46 :: u47 :: u48 :: u49 :: u50 :: u51 :: u52 :: u53 :: u54 :: u55 :: u56 :: u57 :: u58 :: u59 :: u60 :: u61 :: u62 :: u63 :: u64 :: u65 :: u66 :: u67 :: u68 :: u69 :: u70 :: u71 :: u72 :: u73 :: u74 :: u75 :: u76 :: u77 :: u78 :: u79 :: u80 :: u81 :: u82 :: u83 :: u84 :: u85 :: u86 :: u87 :: u88 :: u89 :: u90 :: u91 :: u92 :: u93 :: u94 :: u95 :: u96 :: u97 :: u98 :: u99 :: u100 :: u101 :: u102 :: u103 :: u104 :: u105 :: u106 :: u107 :: u108 :: u109 :: u110 :: u111 :: u112 :: u113 :: u114 :: u115 :: u116 :: u117 :: u118 :: u119 :: u120 :: u121 :: u122 :: u123 :: u124 :: u125 :: u126 :: u127 :: u128 :: u129 :: u130 :: u131 :: u132 :: u133 :: u134 :: u135 :: u136 :: u137 :: u138 :: u139 :: u140 :: u141 :: u142 :: u143 :: u144 :: u145 :: u146 :: u147 :: u148 :: u149 :: u150 :: u151 :: u152 :: u153 :: u154 :: u155 :: u156 :: u157 :: u158 :: u159 :: u160 :: u161 :: u162 :: u163 :: u164 :: u165 :: u166 :: u167 :: u168 :: u169 :: u170 :: u171 :: u172 :: u173 :: u174 :: u175 :: u176 :: u177 :: u178 :: u179 :: u180 :: u181 :: u182 :: u183 :: u184 :: u185 :: u186 :: u187 :: u188 :: u189 :: u190 :: u191 :: u192 :: u193 :: u194 :: u195 :: u196 :: u197 :: u198 :: u199 :: u200 :: u201 :: u202 :: u203 :: u204 :: u205 :: u206 :: u207 :: u208 :: u209 :: u210 :: u211 :: u212 :: u213 :: u214 :: u215 :: u216 :: u217 :: u218 :: u219 :: u220 :: u221 :: u222 :: u223 :: u224 :: u225 :: u226 :: u227 :: u228 :: u229 :: u230 :: u231 :: u232 :: u233 :: u234 :: u235 :: u236 :: u237 :: u238 :: u239 :: u240 :: u241 :: u242 :: u243 :: u244 :: u245 :: u246 :: u247 :: u248 :: u249 :: u250 :: u251 :: u252 :: u253 :: u254 :: u255 :: u256 :: u257 :: u258 :: u259 :: u260 :: u261 :: u262 :: u263 :: u264 :: u265 :: u266 :: u267 :: u268 :: u269 :: u270 :: u271 :: u272 :: u273 :: u274 :: u275 :: u276 :: u277 :: u278 :: u279 :: u280 :: u281 :: u282 :: u283 :: u284 :: u285 :: u286 :: u287 :: u288 :: u289 :: u290 :: u291 :: u292 :: u293 :: u294 :: u295 :: u296 :: u297 :: u298 :: u299 :: u300 :: u301 :: u302 :: u303 :: u304 :: u305 :: u306 :: u307 :: u308 :: u309 :: u310 :: u311 :: u312 :: u313 :: u314 :: u315 :: u316 :: u317 :: u318 :: u319 :: u320 :: u321 :: u322 :: u323 :: u324 :: u325 :: []).toArray, ds⟩ wr := by
  conv => enter [2, 2]; whnf
  have HKK := Lib.hid hK
  clear hK
  have k6 := Lib.hid fun v => R_t y4 6 6 rfl o4 (by decide) v
  have k11 := Lib.hid fun v => R_t y4 11 11 rfl o4 (by decide) v
  have k25 := Lib.hid fun v => R_t y4 25 25 rfl o4 (by decide) v
  have k2 := Lib.hid fun v => R_t y0 2 2 rfl o0 (by decide) v
  have k13 := Lib.hid fun v => R_t y0 13 13 rfl o0 (by decide) v
  have k22 := Lib.hid fun v => R_t y0 22 22 rfl o0 (by decide) v
  have b0 : (0 : Int) ≤ (k : Int) := by omega
  have b1 : (k : Int) < 64 := by omega
  go_wp2
  go_quiet (first
    | (with_reducible exact Calls.quiet_of_same (k6.out _))
    | (with_reducible exact Calls.quiet_of_same (k11.out _))
    | (with_reducible exact Calls.quiet_of_same (k25.out _)))
  have hbq : Below wf.heap.size wf (wr.drewN nq) := ⟨hb1.os, hb1.tape, hb1.output, hb1.size, hb1.block⟩
  have s0 : (wr.drewN nq).cell? ⟨gv, 0, none⟩ = some (.int .u64 (y0 : Nat)) := d0
  have s1 : (wr.drewN nq).cell? ⟨gv, 1, none⟩ = some (.int .u64 (y1 : Nat)) := d1
  have s2 : (wr.drewN nq).cell? ⟨gv, 2, none⟩ = some (.int .u64 (y2 : Nat)) := d2
  have s3 : (wr.drewN nq).cell? ⟨gv, 3, none⟩ = some (.int .u64 (y3 : Nat)) := d3
  have s4 : (wr.drewN nq).cell? ⟨gv, 4, none⟩ = some (.int .u64 (y4 : Nat)) := d4
  have s5 : (wr.drewN nq).cell? ⟨gv, 5, none⟩ = some (.int .u64 (y5 : Nat)) := d5
  have s6 : (wr.drewN nq).cell? ⟨gv, 6, none⟩ = some (.int .u64 (y6 : Nat)) := d6
  have s7 : (wr.drewN nq).cell? ⟨gv, 7, none⟩ = some (.int .u64 (y7 : Nat)) := d7
  have sw : (wr.drewN nq).cell? ⟨g, k, none⟩ = some (.int .u64 (wk : Nat)) := cw
  have sk : (wr.drewN nq).cell? ⟨kb, k, none⟩ = some (.int .u64 (kk : Nat)) := ck
  clear hb1 d0 d1 d2 d3 d4 d5 d6 d7 cw ck k6 k11 k25
  obtain ⟨wq, ewq⟩ : ∃ wq, wr.drewN nq = wq := ⟨_, rfl⟩
  rw [ewq] at hbq s0 s1 s2 s3 s4 s5 s6 s7 sw sk ⊢
  clear ewq
  have x0 := Sg1_lt o4
  have x1 := chs_lt (e := y4) o5 o6
  have x2 := Sg0_lt o0
  have x3 := maj_lt (a := y0) o1 o2
  have g1 := Sg1_expr y4 o4
  have g0 := Sg0_expr y0 o0
  have gm := maj_expr y0 y1 y2 o0 o1 o2
  have g4 : (4294967295 : Int) - (y4 : Int) = ((4294967295 - y4 : Nat) : Int) := by omega
  have gc := chs_expr y4 y5 y6 o4 o5 o6
  rw [rnd_eq] at hrd
  generalize Sg1 y4 = S1 at x0 g1 hrd
  generalize chs y4 y5 y6 = CH at x1 gc hrd
  generalize Sg0 y0 = S0 at x2 g0 hrd
  generalize maj y0 y1 y2 = MA at x3 gm hrd
  obtain ⟨n4, en4⟩ : ∃ n4, 4294967295 - y4 = n4 := ⟨_, rfl⟩
  rw [en4] at g4 gc
  clear en4
  obtain ⟨t, et⟩ : ∃ t, (y7 + S1 + CH + kk + wk) % 4294967296 = t := ⟨_, rfl⟩
  obtain ⟨u, eu⟩ : ∃ u, (S0 + MA) % 4294967296 = u := ⟨_, rfl⟩
  rw [et, eu] at hrd
  obtain ⟨na, ena⟩ : ∃ na, (t + u) % 4294967296 = na := ⟨_, rfl⟩
  obtain ⟨ne, ene⟩ : ∃ ne, (y3 + t) % 4294967296 = ne := ⟨_, rfl⟩
  rw [ena, ene] at hrd
  have lt : t < 4294967296 := by omega
  have lu : u < 4294967296 := by omega
  have ht : ((y7 : Int) + (S1 : Int) + (CH : Int) + (kk : Int) + (wk : Int)) % 4294967296 = (t : Int) := by omega
  have hu : ((S0 : Int) + (MA : Int)) % 4294967296 = (u : Int) := by omega
  have hna : ((t : Int) + (u : Int)) % 4294967296 = (na : Int) := by omega
  have hne : ((y3 : Int) + (t : Int)) % 4294967296 = (ne : Int) := by omega
  have HR := Lib.hid hrd
  clear hrd et eu ena ene
  go_wp2
  go_quiet (fail)
  have hbr : Below wf.heap.size wf (wq.drewN nq) := ⟨hbq.os, hbq.tape, hbq.output, hbq.size, hbq.block⟩
  have s0 : (wq.drewN nq).cell? ⟨gv, 0, none⟩ = some (.int .u64 (y0 : Nat)) := s0
  have s1 : (wq.drewN nq).cell? ⟨gv, 1, none⟩ = some (.int .u64 (y1 : Nat)) := s1
  have s2 : (wq.drewN nq).cell? ⟨gv, 2, none⟩ = some (.int .u64 (y2 : Nat)) := s2
  have s3 : (wq.drewN nq).cell? ⟨gv, 3, none⟩ = some (.int .u64 (y3 : Nat)) := s3
  have s4 : (wq.drewN nq).cell? ⟨gv, 4, none⟩ = some (.int .u64 (y4 : Nat)) := s4
  have s5 : (wq.drewN nq).cell? ⟨gv, 5, none⟩ = some (.int .u64 (y5 : Nat)) := s5
  have s6 : (wq.drewN nq).cell? ⟨gv, 6, none⟩ = some (.int .u64 (y6 : Nat)) := s6
  have s7 : (wq.drewN nq).cell? ⟨gv, 7, none⟩ = some (.int .u64 (y7 : Nat)) := s7
  have sw : (wq.drewN nq).cell? ⟨g, k, none⟩ = some (.int .u64 (wk : Nat)) := sw
  have sk : (wq.drewN nq).cell? ⟨kb, k, none⟩ = some (.int .u64 (kk : Nat)) := sk
  clear hbq
  obtain ⟨wr, ewr⟩ : ∃ wr, wq.drewN nq = wr := ⟨_, rfl⟩
  rw [ewr] at hbr s0 s1 s2 s3 s4 s5 s6 s7 sw sk ⊢
  clear ewr
  go_wp2
  go_quiet (fail)
  clear sw sk
  have hbs : Below wf.heap.size wf (wr.drewN nq) := ⟨hbr.os, hbr.tape, hbr.output, hbr.size, hbr.block⟩
  have s0 : (wr.drewN nq).cell? ⟨gv, 0, none⟩ = some (.int .u64 (y0 : Nat)) := s0
  have s1 : (wr.drewN nq).cell? ⟨gv, 1, none⟩ = some (.int .u64 (y1 : Nat)) := s1
  have s2 : (wr.drewN nq).cell? ⟨gv, 2, none⟩ = some (.int .u64 (y2 : Nat)) := s2
  have s3 : (wr.drewN nq).cell? ⟨gv, 3, none⟩ = some (.int .u64 (y3 : Nat)) := s3
  have s4 : (wr.drewN nq).cell? ⟨gv, 4, none⟩ = some (.int .u64 (y4 : Nat)) := s4
  have s5 : (wr.drewN nq).cell? ⟨gv, 5, none⟩ = some (.int .u64 (y5 : Nat)) := s5
  have s6 : (wr.drewN nq).cell? ⟨gv, 6, none⟩ = some (.int .u64 (y6 : Nat)) := s6
  have s7 : (wr.drewN nq).cell? ⟨gv, 7, none⟩ = some (.int .u64 (y7 : Nat)) := s7
  clear hbr
  obtain ⟨ws, ews⟩ : ∃ ws, wr.drewN nq = ws := ⟨_, rfl⟩
  rw [ews] at hbs s0 s1 s2 s3 s4 s5 s6 s7 ⊢
  clear ews
  go_wp2
  go_quiet (first
    | (with_reducible exact Calls.quiet_of_same (k2.out _))
    | (with_reducible exact Calls.quiet_of_same (k13.out _))
    | (with_reducible exact Calls.quiet_of_same (k22.out _)))
  have hbt : Below wf.heap.size wf (ws.drewN nq) := ⟨hbs.os, hbs.tape, hbs.output, hbs.size, hbs.block⟩
  have s0 : (ws.drewN nq).cell? ⟨gv, 0, none⟩ = some (.int .u64 (y0 : Nat)) := s0
  have s1 : (ws.drewN nq).cell? ⟨gv, 1, none⟩ = some (.int .u64 (y1 : Nat)) := s1
  have s2 : (ws.drewN nq).cell? ⟨gv, 2, none⟩ = some (.int .u64 (y2 : Nat)) := s2
  have s3 : (ws.drewN nq).cell? ⟨gv, 3, none⟩ = some (.int .u64 (y3 : Nat)) := s3
  have s4 : (ws.drewN nq).cell? ⟨gv, 4, none⟩ = some (.int .u64 (y4 : Nat)) := s4
  have s5 : (ws.drewN nq).cell? ⟨gv, 5, none⟩ = some (.int .u64 (y5 : Nat)) := s5
  have s6 : (ws.drewN nq).cell? ⟨gv, 6, none⟩ = some (.int .u64 (y6 : Nat)) := s6
  have s7 : (ws.drewN nq).cell? ⟨gv, 7, none⟩ = some (.int .u64 (y7 : Nat)) := s7
  clear hbs
  obtain ⟨wt, ewt⟩ : ∃ wt, ws.drewN nq = wt := ⟨_, rfl⟩
  rw [ewt] at hbt s0 s1 s2 s3 s4 s5 s6 s7 ⊢
  clear ewt
  go_wp2
  go_quiet (fail)
  have hbu : Below wf.heap.size wf (wt.drewN nq) := ⟨hbt.os, hbt.tape, hbt.output, hbt.size, hbt.block⟩
  have s0 : (wt.drewN nq).cell? ⟨gv, 0, none⟩ = some (.int .u64 (y0 : Nat)) := s0
  have s1 : (wt.drewN nq).cell? ⟨gv, 1, none⟩ = some (.int .u64 (y1 : Nat)) := s1
  have s2 : (wt.drewN nq).cell? ⟨gv, 2, none⟩ = some (.int .u64 (y2 : Nat)) := s2
  have s3 : (wt.drewN nq).cell? ⟨gv, 3, none⟩ = some (.int .u64 (y3 : Nat)) := s3
  have s4 : (wt.drewN nq).cell? ⟨gv, 4, none⟩ = some (.int .u64 (y4 : Nat)) := s4
  have s5 : (wt.drewN nq).cell? ⟨gv, 5, none⟩ = some (.int .u64 (y5 : Nat)) := s5
  have s6 : (wt.drewN nq).cell? ⟨gv, 6, none⟩ = some (.int .u64 (y6 : Nat)) := s6
  have s7 : (wt.drewN nq).cell? ⟨gv, 7, none⟩ = some (.int .u64 (y7 : Nat)) := s7
  clear hbt
  obtain ⟨wu, ewu⟩ : ∃ wu, wt.drewN nq = wu := ⟨_, rfl⟩
  rw [ewu] at hbu s0 s1 s2 s3 s4 s5 s6 s7 ⊢
  clear ewu
  go_wp2
  refine region_tail 28 (by kernel_rfl) (by kernel_rfl) ?_
  simp only [List.take_succ_cons, List.take_zero, List.drop_succ_cons, List.drop_zero]
  repeat still_step
  refine wpStill_nil ?_
  go_wp2
  refine HKK.out _ _ _ _ _ _ _ _ _ _ _ _ _ _ _ _ _ _ _ _ _ _ _ _ _ _ _ _ _ _ _ _ _ _ _ _ _ _ _ _ _ _ _ _ _ _ _ _ _ _ _ _ _ _ _ _ _ _ _ _ _ _ _ _ _ _ _ _ _ _ _ _ _ _ _ _ _ _ _ _ _ _ _ _ _ _ _ _ _ _ _ _ _ _ _ _ _ _ _ _ _ _ _ _ _ _ _ _ _ _ _ _ _ _ _ _ _ _ _ _ _ _ _ _ _ _ (hbu.alloc hbu.size _).drew hbu.size ?_
  intro j v hv
  rw [HR.out] at hv
  refine (cell_of_row _ _ _ _ _ _ (heap_alloc_new wu _)).trans ?_
  rw [hna, hne]
  show (wl (S8.list ⟨na, y0, y1, y2, ne, y4, y5, y6⟩)).toArray[j]? = some v
  simpa using hv
end Go.Proofs.YtgdpbnmhhbnkgaaDoor.Cod

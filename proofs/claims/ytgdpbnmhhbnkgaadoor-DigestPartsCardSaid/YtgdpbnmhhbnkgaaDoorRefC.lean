/- The document's digest: one of its blocks. -/
import Derived.Test.YtgdpbnmhhbnkgaaDoorRefG
import Derived.Test.YtgdpbnmhhbnkgaaDoorRefF
import Derived.Deep.CutBlock
namespace Go.Proofs.YtgdpbnmhhbnkgaaDoor.Cod
open Go.RowKit
set_option maxHeartbeats 8000000 in
set_option maxRecDepth 1000000 in
theorem C_block {K : Act → World → Prop} {Q' : Exit → Act → World → Prop} {u1 u2 u3 u4 u5 u9 u10 u11 u12 u13 u14 u15 u16 u17 u18 u19 u20 u21 u22 u23 u24 u25 u26 u27 u28 u29 u30 u31 u32 u33 u34 u35 u36 u37 u38 u39 u40 u41 u42 u43 u44 u45 u46 u47 u48 u49 u50 u51 u52 u53 u54 u55 u56 u57 u58 u59 u60 u61 u62 u63 u64 u65 u66 u67 u68 u69 u70 u71 u72 u73 u74 u75 u76 u77 u78 u79 u80 u81 u82 u83 u84 u85 u86 u87 u88 u89 u90 u91 u92 u93 u94 u95 u96 u97 u98 u99 u100 u101 u102 u103 u104 u105 u106 u107 u108 u109 u110 u111 u112 u113 u114 u115 u116 u117 u118 u119 u120 u121 u122 u123 u124 u125 u126 u127 u128 u129 u130 u131 u132 u133 u134 u135 u136 u137 u138 u139 u140 u141 u142 u143 u144 u145 u146 u147 u148 u149 u150 u151 u152 u153 u154 u155 u156 u157 u158 u159 u160 u161 u162 u163 u164 u165 u166 u167 u168 u169 u170 u171 u172 u173 u174 u175 u176 u177 u178 u179 u180 u181 u182 u183 u184 u185 u186 u187 u188 u189 u190 u191 u192 u193 u194 u195 u196 u197 u198 u199 u200 u201 u202 u203 u204 u205 u206 u207 u208 u209 u210 u211 u212 u213 u214 u215 u216 u217 u218 u219 u220 u221 u222 u223 u224 u225 u226 u227 u228 u229 u230 u231 u232 u233 u234 u235 u236 u237 u238 u239 u240 u241 u242 u243 u244 u245 u246 u247 u248 u249 u250 u251 u252 u253 u254 u255 u256 u257 u258 u259 u260 u261 u262 u263 u264 u265 u266 u267 u268 u269 u270 u271 u272 u273 u274 u275 u276 u277 u278 u279 u280 u281 u282 u283 u284 u285 u286 u287 u288 u289 u290 u291 u292 u293 u294 u295 u296 u297 u298 u299 u300 u301 u302 u303 u304 u305 u306 u307 u308 u309 u310 u311 u312 u313 u314 u315 u316 u317 u318 u319 u320 u321 u322 u323 u324 u325 : Value} {ds : List Deferred} {w wr : World} {Q : ByteArray} {P : List UInt8} {A B m : Nat} (hbq : bl Q = P) (hQb : Q.size ≤ 140737488350072) (hP1 : P.length % 64 = 0) (hlt : m < P.length / 64) (eA : 64 * m = A) (hI : OfI w P B (B + 1) m wr)
    (hK : ∀ (wz : World) (x9 x10 x11 x12 x13 x14 x15 x16 x17 x18 x19 x20 x21 x22 x23 x24 x68 x69 x70 x71 x72 x73 x74 x75 x76 x77 x78 x79 x80 x81 x82 x83 x84 x85 x86 x87 x88 x89 x90 x91 x92 x93 x94 x95 x96 x97 x98 x99 x100 x101 x102 x103 x104 x105 x106 x107 x108 x109 x110 x111 x112 x113 x114 x115 x116 x117 x118 x119 x120 x121 x122 x123 x124 x125 x126 x127 x128 x129 x130 x131 x132 x133 x134 x135 x136 x137 x138 x139 x140 x141 x142 x143 x144 x145 x146 x147 x148 x149 x150 x151 x152 x153 x154 x155 x156 x157 x158 x159 x160 x161 x162 x163 x164 x165 x166 x167 x168 x169 x170 x171 x172 x173 x174 x175 x176 x177 x178 x179 x180 x181 x182 x183 x184 x185 x186 x187 x188 x189 x190 x191 x192 x193 x194 x195 x196 x197 x198 x199 x200 x201 x202 x203 x204 x205 x206 x207 x208 x209 x210 x211 x212 x213 x214 x215 x216 x217 x218 x219 x220 x221 x222 x223 x224 x225 x226 x227 x228 x229 x230 x231 x232 x233 x234 x235 x236 x237 x238 x239 x240 x241 x242 x243 x244 x245 x246 x247 x248 x249 x250 x251 x252 x253 x254 x255 x256 x257 x258 x259 x260 x261 x262 x263 x264 x265 x266 x267 x268 x269 x270 x271 x272 x273 x274 x275 x276 x277 x278 x279 x280 x281 x282 x283 x284 x285 x286 x287 x288 x289 x290 x291 x292 x293 x294 x295 x296 x297 x298 x299 : Value), OfI w P B (B + 1) (m + 1) wz → K ⟨(.string Q :: u1 :: u2 :: u3 :: u4 :: u5 :: .slice (some ⟨B, 0, none⟩) 8 8 :: .slice (some ⟨B + 1, 0, none⟩) 64 64 :: .int .i64 (A : Int) :: x9 :: x10 :: x11 :: x12 :: x13 :: x14 :: x15 :: x16 :: x17 :: x18 :: x19 :: x20 :: x21 :: x22 :: x23 :: x24 :: u25 :: u26 :: u27 :: u28 :: u29 :: u30 :: u31 :: u32 :: u33 :: u34 :: u35 :: u36 :: u37 :: u38 :: u39 :: u40 :: u41 :: u42 :: u43 :: u44 :: u45 :: u46 :: u47 :: u48 :: u49 :: u50 :: u51 :: u52 :: u53 :: u54 :: u55 :: u56 :: u57 :: u58 :: u59 :: u60 :: u61 :: u62 :: u63 :: u64 :: u65 :: u66 :: u67 :: x68 :: x69 :: x70 :: x71 :: x72 :: x73 :: x74 :: x75 :: x76 :: x77 :: x78 :: x79 :: x80 :: x81 :: x82 :: x83 :: x84 :: x85 :: x86 :: x87 :: x88 :: x89 :: x90 :: x91 :: x92 :: x93 :: x94 :: x95 :: x96 :: x97 :: x98 :: x99 :: x100 :: x101 :: x102 :: x103 :: x104 :: x105 :: x106 :: x107 :: x108 :: x109 :: x110 :: x111 :: x112 :: x113 :: x114 :: x115 :: x116 :: x117 :: x118 :: x119 :: x120 :: x121 :: x122 :: x123 :: x124 :: x125 :: x126 :: x127 :: x128 :: x129 :: x130 :: x131 :: x132 :: x133 :: x134 :: x135 :: x136 :: x137 :: x138 :: x139 :: x140 :: x141 :: x142 :: x143 :: x144 :: x145 :: x146 :: x147 :: x148 :: x149 :: x150 :: x151 :: x152 :: x153 :: x154 :: x155 :: x156 :: x157 :: x158 :: x159 :: x160 :: x161 :: x162 :: x163 :: x164 :: x165 :: x166 :: x167 :: x168 :: x169 :: x170 :: x171 :: x172 :: x173 :: x174 :: x175 :: x176 :: x177 :: x178 :: x179 :: x180 :: x181 :: x182 :: x183 :: x184 :: x185 :: x186 :: x187 :: x188 :: x189 :: x190 :: x191 :: x192 :: x193 :: x194 :: x195 :: x196 :: x197 :: x198 :: x199 :: x200 :: x201 :: x202 :: x203 :: x204 :: x205 :: x206 :: x207 :: x208 :: x209 :: x210 :: x211 :: x212 :: x213 :: x214 :: x215 :: x216 :: x217 :: x218 :: x219 :: x220 :: x221 :: x222 :: x223 :: x224 :: x225 :: x226 :: x227 :: x228 :: x229 :: x230 :: x231 :: x232 :: x233 :: x234 :: x235 :: x236 :: x237 :: x238 :: x239 :: x240 :: x241 :: x242 :: x243 :: x244 :: x245 :: x246 :: x247 :: x248 :: x249 :: x250 :: x251 :: x252 :: x253 :: x254 :: x255 :: x256 :: x257 :: x258 :: x259 :: x260 :: x261 :: x262 :: x263 :: x264 :: x265 :: x266 :: x267 :: x268 :: x269 :: x270 :: x271 :: x272 :: x273 :: x274 :: x275 :: x276 :: x277 :: x278 :: x279 :: x280 :: x281 :: x282 :: x283 :: x284 :: x285 :: x286 :: x287 :: x288 :: x289 :: x290 :: x291 :: x292 :: x293 :: x294 :: x295 :: x296 :: x297 :: x298 :: x299 :: u300 :: u301 :: u302 :: u303 :: u304 :: u305 :: u306 :: u307 :: u308 :: u309 :: u310 :: u311 :: u312 :: u313 :: u314 :: u315 :: u316 :: u317 :: u318 :: u319 :: u320 :: u321 :: u322 :: u323 :: u324 :: u325 :: []).toArray, ds⟩ wz) :
    (Code.block 5 (blk Tryd.f31 5)).wp Tryd.prog (Exit.then K Q') ⟨(.string Q :: u1 :: u2 :: u3 :: u4 :: u5 :: .slice (some ⟨B, 0, none⟩) 8 8 :: .slice (some ⟨B + 1, 0, none⟩) 64 64 :: .int .i64 (A : Int) :: u9 :: u10 :: u11 :: u12 :: u13 :: u14 :: u15 :: u16 :: u17 :: u18 :: u19 :: u20 :: u21 :: u22 :: u23 :: u24 :: u25 :: u26 :: u27 :: u28 :: u29 :: u30 :: u31 :: u32 :: u33 :: u34 :: u35 :: u36 :: u37 :: u38 :: u39 :: u40 :: u41 :: u42 :: u43 :: u44 :: u45 :: u46 :: u47 :: u48 :: u49 :: u50 :: u51 :: u52 :: u53 :: u54 :: u55 :: u56 :: u57 :: u58 :: u59 :: u60 :: u61 :: u62 :: u63 :: u64 :: u65 :: u66 :: u67 :: u68 :: u69 :: u70 :: u71 :: u72 :: u73 :: u74 :: u75 :: u76 :: u77 :: u78 :: u79 :: u80 :: u81 :: u82 :: u83 :: u84 :: u85 :: u86 :: u87 :: u88 :: u89 :: u90 :: u91 :: u92 :: u93 :: u94 :: u95 :: u96 :: u97 :: u98 :: u99 :: u100 :: u101 :: u102 :: u103 :: u104 :: u105 :: u106 :: u107 :: u108 :: u109 :: u110 :: u111 :: u112 :: u113 :: u114 :: u115 :: u116 :: u117 :: u118 :: u119 :: u120 :: u121 :: u122 :: u123 :: u124 :: u125 :: u126 :: u127 :: u128 :: u129 :: u130 :: u131 :: u132 :: u133 :: u134 :: u135 :: u136 :: u137 :: u138 :: u139 :: u140 :: u141 :: u142 :: u143 :: u144 :: u145 :: u146 :: u147 :: u148 :: u149 :: u150 :: u151 :: u152 :: u153 :: u154 :: u155 :: u156 :: u157 :: u158 :: u159 :: u160 :: u161 :: u162 :: u163 :: u164 :: u165 :: u166 :: u167 :: u168 :: u169 :: u170 :: u171 :: u172 :: u173 :: u174 :: u175 :: u176 :: u177 :: u178 :: u179 :: u180 :: u181 :: u182 :: u183 :: u184 :: u185 :: u186 :: u187 :: u188 :: u189 :: u190 :: u191 :: u192 :: u193 :: u194 :: u195 :: u196 :: u197 :: u198 :: u199 :: u200 :: u201 :: u202 :: u203 :: u204 :: u205 :: u206 :: u207 :: u208 :: u209 :: u210 :: u211 :: u212 :: u213 :: u214 :: u215 :: u216 :: u217 :: u218 :: u219 :: u220 :: u221 :: u222 :: u223 :: u224 :: u225 :: u226 :: u227 :: u228 :: u229 :: u230 :: u231 :: u232 :: u233 :: u234 :: u235 :: u236 :: u237 :: u238 :: u239 :: u240 :: u241 :: u242 :: u243 :: u244 :: u245 :: u246 :: u247 :: u248 :: u249 :: u250 :: u251 :: u252 :: u253 :: u254 :: u255 :: u256 :: u257 :: u258 :: u259 :: u260 :: u261 :: u262 :: u263 :: u264 :: u265 :: u266 :: u267 :: u268 :: u269 :: u270 :: u271 :: u272 :: u273 :: u274 :: u275 :: u276 :: u277 :: u278 :: u279 :: u280 :: u281 :: u282 :: u283 :: u284 :: u285 :: u286 :: u287 :: u288 :: u289 :: u290 :: u291 :: u292 :: u293 :: u294 :: u295 :: u296 :: u297 :: u298 :: u299 :: u300 :: u301 :: u302 :: u303 :: u304 :: u305 :: u306 :: u307 :: u308 :: u309 :: u310 :: u311 :: u312 :: u313 :: u314 :: u315 :: u316 :: u317 :: u318 :: u319 :: u320 :: u321 :: u322 :: u323 :: u324 :: u325 :: []).toArray, ds⟩ wr := by
  conv => enter [2, 2]; whnf
  have HKK := Lib.hid hK
  have hQs : Q.size = P.length := bl_size hbq
  have HBQ := Lib.hid hbq
  have HQS := Lib.hid hQs
  clear hK hbq hQs
  have hA1 : A + 64 ≤ Q.size := by have := HQS.out; omega
  have hA0 : (A : Int) < (Q.size : Int) := by omega
  obtain ⟨b, eb⟩ : ∃ b, (P.drop A).take 64 = b := ⟨_, rfl⟩
  have hby := fun (k i : Nat) (hk : k < 64) (hi : i = A + k) (hs : i < Q.size) => getD_of HBQ.out A k i hk hi hs
  rw [eb] at hby
  have HBY := Lib.hid hby
  have EB := Lib.hid eb
  have HI := Lib.hid hI
  have EA := Lib.hid eA
  clear hby eb hI eA
  obtain ⟨i0, hi, hz0, hz1, hz2⟩ := info_parts infoU64
  obtain ⟨wo, rfl⟩ : ∃ wo : World, wo = wr := ⟨_, rfl⟩
  go_wp2
  go_loopw [9, 10] (fun v i wr => WRel wo (sched b) 0 v i wr ∧ intOf i ≤ 16) (fun _ i _ => 16 - (intOf i).toNat)
  case atStart => exact ⟨⟨0, by omega, rfl, World.ownsRow_made _ _ 0 (Nat.le_refl _) (by decide) rfl, (Below.refl _ _).alloc (Nat.le_refl _) _⟩, by decide⟩
  case round =>
    obtain ⟨⟨k, _, rfl, hown, hbw⟩, hk16⟩ := hrel
    have hk : k ≤ 16 := by simp [intOf] at hk16; omega
    clear hk16
    by_cases hlt : k < 16
    · have hltI : (k : Int) < 16 := by omega
      have k0 : (0 : Int) ≤ (k : Int) := by omega
      go_wp2
      go_loop [11, 12] (fun x j => ERel b k x j) (fun _ j => 4 - (intOf j).toNat)
      case atStart => exact ⟨0, by omega, rfl, rfl⟩
      case round =>
        obtain ⟨n, hn, rfl, rfl⟩ := hrel
        have hpb := pbe_lt b k n hn
        by_cases hlt4 : n < 4
        · have hp := hpb.2 (by omega)
          have hps : pbe b k (n + 1) = pbe b k n * 256 + (b.getD (4 * k + n) 0).toNat := rfl
          have hq := HBY.out (4 * k + n) (A + 4 * k + n) (by omega) (by omega) (by omega)
          have x1 : (0 : Int) ≤ (A : Int) + 4 * (k : Int) + (n : Int) := by omega
          have x2 : (A : Int) + 4 * (k : Int) + (n : Int) < (Q.size : Int) := by omega
          have n0 : (0 : Int) ≤ (n : Int) := by omega
          have HQ2 := Lib.hid hq
          have HPS := Lib.hid hps
          clear hq hps hpb
          go_wp2
          refine ⟨⟨n + 1, by omega, by go_num, ?_⟩, by simp [intOf]; omega⟩
          rw [HPS.out, HQ2.out]
          exact congrArg (Value.int .u64) (pb_expr _ _ hp (UInt8.toNat_lt _))
        · obtain rfl : n = 4 := by omega
          rw [pbe_be4]
          have hb4 := be4_lt b k
          have hsl := sched_lo b k hlt
          have htk : wl ((sched b).take (k + 1)) = wl ((sched b).take k) ++ [.int .u64 (be4 b k : Nat)] := by
            unfold wl; rw [List.take_add_one, hsl, List.map_append]; rfl
          have HTK := Lib.hid htk
          clear hsl htk hpb
          obtain ⟨x, ex⟩ : ∃ x, be4 b k = x := ⟨_, rfl⟩
          rw [ex] at hb4 ⊢
          have EX := Lib.hid ex
          clear ex
          go_wp2_with (at_builtin; refine wpList_append_own _ rfl _ _ 23 rfl wo.heap.size 39 i0 (.int .u64 0) 1 8 Tryd.underlying23 hi hz0 hz1 hz2 rfl (by decide) _ _ _ rfl (hown.alloc _) ⟨wr.heap.size, 0, none⟩ 1 1 [.int .u64 (x : Nat)] rfl rfl ?c1 ?c2 ?c3 ?c4 ?c5 ?_)
          case c2 => rfl
          case c3 => unfold maxLen; omega
          case c4 => omega
          case c5 => have := hbw.size; simp; omega
          intro v' w1 hown' hgrow _
          go_wp2
          go_roundw
          case rel =>
            refine ⟨⟨k + 1, by omega, by go_num, ?_, ?_⟩, by simp [intOf]; omega⟩
            · rw [HTK.out, EX.out]; exact hown'
            · exact (hbw.alloc hbw.size _).grown hgrow (by have := hbw.size; simp; omega) (fun j hj => (hown.lt j hj).1)
          case measure => simp [intOf]; omega
    · obtain rfl : k = 16 := by omega
      go_wp2
      go_loopw [9, 13] (fun v i wr => WRel wo (sched b) 16 v i wr ∧ intOf i ≤ 64) (fun _ i _ => 64 - (intOf i).toNat)
      case atStart => exact ⟨⟨16, by omega, rfl, hown, hbw⟩, by decide⟩
      case round =>
        clear hown hbw
        obtain ⟨⟨k, hk16, rfl, hown, hbw⟩, hk64⟩ := hrel
        have hk : k ≤ 64 := by simp [intOf] at hk64; omega
        clear hk64
        by_cases hlt : k < 64
        · obtain ⟨j, rfl⟩ : ∃ j, k = j + 16 := ⟨k - 16, by omega⟩
          obtain ⟨g, cap, rfl, hgb, hgl, hc⟩ := own_form hown (by omega)
          have HOWNC := Lib.hid hown
          have HCC := Lib.hid hc
          have HBW := Lib.hid hbw
          clear hown hc hbw
          go_upto_block 11 with (fail)
          refine F_block b hi hz0 hz1 hz2 (by omega) hlt HBW.out HOWNC.out HCC.out ?_
          intro v2 wz x14 x15 x97 x98 x99 x100 x101 x102 x103 x104 x105 x106 x107 x108 x109 x110 x111 x112 x113 x114 x115 x116 x117 x118 x119 x120 x121 x122 x123 x124 x125 x126 x127 x128 x129 x130 x131 x132 x133 x134 x135 x136 x137 x138 x139 x140 x141 x142 x143 x144 x145 x146 x147 x148 x149 x150 x151 x152 x153 x154 x155 hbz hoz
          clear HOWNC HCC HBW
          go_wp2
          go_roundw
          case rel =>
            exact ⟨⟨j + 16 + 1, by omega, by go_num, hoz, hbz⟩, by simp [intOf]; omega⟩
          case measure => simp [intOf]; omega
        · obtain rfl : k = 64 := by omega
          have hlen := sched_len b
          rw [List.take_of_length_le (by omega)] at hown
          obtain ⟨g, cap, rfl, hgb, hgl, hcW⟩ := own_form hown (by omega)
          have hbh : wr.heap[B]? = some (.cells (words64 (pre P m).list) 39 (0, 0)) := (hbw.block _ (by have := HI.out.z; omega)).trans HI.out.hh
          have hbk : wr.heap[B + 1]? = some (.cells (words64 KEYS) 39 (0, 0)) := (hbw.block _ HI.out.z).trans HI.out.kk
          have hzz : B + 1 < wr.heap.size := by have := HI.out.z; have := hbw.size; omega
          obtain ⟨wf, rfl⟩ : ∃ wf : World, wf = wr := ⟨_, rfl⟩
          have hown0 := World.ownsRow_made (base := wf.heap.size) (e := 39) (size := 1) wf #[] 0 (Nat.le_refl _) (by decide) rfl
          have hnews : ∀ (j : Nat) u, (wl (pre P m).list)[j]? = some u → (wf.alloc (.cells #[] 39)).cell? ((⟨B, 0, none⟩ : Addr).add j) = some u := by
            intro j u hu
            rw [Addr.add_mid, Nat.zero_add, World.cell?_alloc_lt _ _ _ (by show B < _; omega), cell_of_row _ _ _ _ _ _ hbh]
            show (wl (pre P m).list).toArray[j]? = some u
            simpa using hu
          have HBH := Lib.hid hbh
          have HBK := Lib.hid hbk
          have HCW := Lib.hid hcW
          have HN := Lib.hid hnews
          have HO0 := Lib.hid hown0
          clear hown hbh hbk hcW hnews hown0 hlen
          go_wp2_with (at_builtin; refine wpList_append_own _ rfl _ _ 23 rfl wf.heap.size 39 i0 (.int .u64 0) 1 8 Tryd.underlying23 hi hz0 hz1 hz2 rfl (by decide) _ _ _ rfl HO0.out ⟨B, 0, none⟩ 8 8 (wl (pre P m).list) rfl rfl HN.out (wl_one _) (by unfold maxLen; omega) (by omega) (by simp) ?_)
          intro v' w1 hown' hgrow _
          have hown' : w1.ownsRow wf.heap.size 39 1 v' 8 (wl (pre P m).list) := by simpa using hown'
          have hb1 : Below wf.heap.size wf w1 := ((Below.refl _ _).alloc (Nat.le_refl _) _).grown hgrow (by simp) (fun k hk => by simp [Value.ownBlock] at hk; omega)
          obtain ⟨gv, cv, rfl, hgv, hgvl, hcv⟩ := own_form hown' (by omega)
          have HCV := Lib.hid hcv
          clear hcv hown' hgrow
          go_wp2
          go_loopw [16, 17] (fun v i wr => RndRel wf (pre P m) (sched b) v i wr) (fun _ i _ => 64 - (intOf i).toNat)
          case atStart => exact ⟨0, gv, cv, by omega, rfl, rfl, hgv, HCV.out, hb1⟩
          case round =>
            clear HCV hb1 hgvl hgv
            obtain ⟨k, gv, cv, hk, rfl, rfl, hgv, hcv, hb1⟩ := hrel
            have hyok := rnds_ok (pre_ok P m) (sched b) k
            by_cases hlt : k < 64
            · have hrd := rnds_succ (pre P m) (sched b) k (sched_len b) hlt
              obtain ⟨o0, o1, o2, o3, o4, o5, o6, o7⟩ := hyok
              have hwk : (sched b)[k]? = some ((sched b).getD k 0) := by rw [List.getD_eq_getElem?_getD, List.getElem?_eq_getElem (by rw [sched_len]; exact hlt)]; rfl
              have lw := sched_lt b k _ hwk
              have hkk := keys_get k hlt
              have hkb : ∀ k, k < 64 → KEYS.getD k 0 < 4294967296 := by decide
              have lk := hkb k hlt
              have cw : wr.cell? ⟨g, k, none⟩ = some (.int .u64 ((sched b).getD k 0 : Nat)) := (hb1.cell (p := ⟨g, k, none⟩) hgl).trans (HCW.out k _ (wl_get _ _ _ hwk))
              have ck : wr.cell? ⟨B + 1, k, none⟩ = some (.int .u64 (KEYS.getD k 0 : Nat)) := (cell_of_row _ _ _ _ _ _ ((hb1.block _ hzz).trans HBK.out)).trans (words64_get _ _ _ hkk)
              generalize (sched b).getD k 0 = wk at cw hrd lw
              generalize KEYS.getD k 0 = kk at ck hrd lk
              generalize hy : rnds (pre P m) (sched b) k = y at hrd o0 o1 o2 o3 o4 o5 o6 o7 hcv
              clear hy hwk hkk hkb
              obtain ⟨y0, y1, y2, y3, y4, y5, y6, y7⟩ := y
              simp only at o0 o1 o2 o3 o4 o5 o6 o7
              have d0 : wr.cell? ⟨gv, 0, none⟩ = some (.int .u64 (y0 : Nat)) := hcv 0 _ rfl
              have d1 : wr.cell? ⟨gv, 1, none⟩ = some (.int .u64 (y1 : Nat)) := hcv 1 _ rfl
              have d2 : wr.cell? ⟨gv, 2, none⟩ = some (.int .u64 (y2 : Nat)) := hcv 2 _ rfl
              have d3 : wr.cell? ⟨gv, 3, none⟩ = some (.int .u64 (y3 : Nat)) := hcv 3 _ rfl
              have d4 : wr.cell? ⟨gv, 4, none⟩ = some (.int .u64 (y4 : Nat)) := hcv 4 _ rfl
              have d5 : wr.cell? ⟨gv, 5, none⟩ = some (.int .u64 (y5 : Nat)) := hcv 5 _ rfl
              have d6 : wr.cell? ⟨gv, 6, none⟩ = some (.int .u64 (y6 : Nat)) := hcv 6 _ rfl
              have d7 : wr.cell? ⟨gv, 7, none⟩ = some (.int .u64 (y7 : Nat)) := hcv 7 _ rfl
              clear hcv
              have b0 : (0 : Int) ≤ (k : Int) := by omega
              have b1 : (k : Int) < 64 := by omega
              have D := Lib.hid (And.intro d0 (And.intro d1 (And.intro d2 (And.intro d3 (And.intro d4 (And.intro d5 (And.intro d6 d7)))))))
              have CW := Lib.hid (And.intro cw ck)
              have HB1 := Lib.hid hb1
              have HRD := Lib.hid hrd
              clear d0 d1 d2 d3 d4 d5 d6 d7 cw ck hb1 hrd
              go_upto_block 13 with (fail)
              refine G_block _ HRD.out hlt HB1.out o0 o1 o2 o3 o4 o5 o6 o7 lw lk D.out.1 D.out.2.1 D.out.2.2.1 D.out.2.2.2.1 D.out.2.2.2.2.1 D.out.2.2.2.2.2.1 D.out.2.2.2.2.2.2.1 D.out.2.2.2.2.2.2.2 CW.out.1 CW.out.2 ?_
              intro gz wz x18 x19 x20 x21 x22 x23 x163 x164 x165 x166 x167 x168 x169 x170 x171 x172 x173 x174 x175 x176 x177 x178 x179 x180 x181 x182 x183 x184 x185 x186 x187 x188 x189 x190 x191 x192 x193 x194 x195 x196 x197 x198 x199 x200 x201 x202 x203 x204 x205 x206 x207 x208 x209 x210 x211 x212 x213 x214 x215 x216 x217 x218 x219 x220 x221 x222 x223 x224 x225 x226 x227 x228 x229 x230 x231 x232 x233 x234 x235 x236 x237 x238 x239 x240 x241 x242 x243 x244 x245 x246 x247 x248 x249 x250 x251 x252 x253 x254 x255 x256 x257 x258 x259 x260 x261 x262 x263 x264 x265 x266 x267 x268 x269 x270 x271 x272 x273 x274 x275 x276 x277 x278 x279 x280 hbz hgz hcz
              have HCZ := Lib.hid hcz
              have HBZ := Lib.hid hbz
              clear D CW HB1 hcz hbz
              go_wp2
              refine ⟨⟨k + 1, gz, 8, by omega, by go_num, rfl, hgz, HCZ.out, HBZ.out⟩, by simp [intOf]; omega⟩
            · obtain rfl : k = 64 := by omega
              rw [show ((64 : Nat) : Int) = 64 from rfl]
              obtain ⟨y, ey⟩ : ∃ y, rnds (pre P m) (sched b) 64 = y := ⟨_, rfl⟩
              rw [ey] at hcv
              have EY := Lib.hid ey
              have hbh := (hb1.block _ (by omega)).trans HBH.out
              have hbk := (hb1.block _ hzz).trans HBK.out
              have hbw' : Below w.heap.size w wr := (HI.out.b.trans (hbw.mono HI.out.b.size)).trans (hb1.mono (by have := HI.out.b.size; have := hbw.size; omega))
              have hsz : wf.heap.size ≤ wr.heap.size := hb1.size
              clear ey hb1
              go_wp2
              go_loopw [283] (fun i wr => HRel w (pre P m) y B gv i wr) (fun i _ => 8 - (intOf i).toNat)
              case atStart => exact ⟨0, by omega, rfl, hbw', hbh, hbk, hcv, by omega⟩
              case round =>
                clear hbw' hbh hbk hcv
                obtain ⟨i, hi8, rfl, hbw', hbh, hbk, hcv, hsz'⟩ := hrel
                by_cases hlt : i < 8
                · obtain ⟨p, q, hp, hq, hpq⟩ := add_at (pre P m) y i hlt
                  have hyo : y.ok := by rw [← EY.out]; exact hyok
                  have hpl := list_lt (pre_ok P m) hp
                  have hql := list_lt hyo hq
                  have c1 : wr.cell? ⟨B, i, none⟩ = some (.int .u64 (p : Nat)) := (cell_of_row _ _ _ _ _ _ hbh).trans (addD_at (pre P m) y i p hlt hp)
                  have f1 : wr.frozen? ⟨B, i, none⟩ = false := frozen_of_row _ _ _ _ _ hbh
                  have c2 : wr.cell? ⟨gv, i, none⟩ = some (.int .u64 (q : Nat)) := hcv i _ (wl_get _ _ _ hq)
                  obtain ⟨r, er⟩ : ∃ r, r = (p + q) % 4294967296 := ⟨_, rfl⟩
                  have hr : ((p : Int) + (q : Int)) % 4294967296 = (r : Int) := by omega
                  rw [← er] at hpq
                  have HPQ := Lib.hid hpq
                  have HH := Lib.hid hbh
                  have HK := Lib.hid hbk
                  have HV := Lib.hid hcv
                  clear hpq er hp hq hbh hbk hcv
                  have b0 : (0 : Int) ≤ (i : Int) := by omega
                  have b1 : (i : Int) < 8 := by omega
                  go_wp2
                  refine region_tail 13 (by kernel_rfl) (by kernel_rfl) ?_
                  simp only [List.take_succ_cons, List.take_zero, List.drop_succ_cons, List.drop_zero]
                  repeat still_step
                  refine wpStill_nil ?_
                  go_wp2
                  go_roundw
                  case rel =>
                    refine ⟨i + 1, by omega, by go_num, hbw'.drew.setCell (by have := HI.out.lo; simpa using this) _, ?_, ?_, ?_, by simpa using hsz'⟩
                    · exact (heap_setCell_same _ _ _ _ _ _ HH.out).trans (by rw [addD_set (pre P m) y i r hlt HPQ.out])
                    · exact (heap_setCell_other _ _ _ _ (by simp)).trans HK.out
                    · intro j u hu
                      have hne : (⟨B, i, none⟩ : Addr) ≠ ⟨gv, j, none⟩ := by intro e; have := congrArg Addr.block e; simp at this; omega
                      exact (World.cell?_setCell_other _ _ _ _ hne).trans (HV.out j u hu)
                  case measure => simp [intOf]; omega
                · obtain rfl : i = 8 := by omega
                  rw [addD_full] at hbh
                  have HH := Lib.hid hbh
                  have HK := Lib.hid hbk
                  clear hbh hbk hcv
                  go_wp2
                  refine HKK.out _ _ _ _ _ _ _ _ _ _ _ _ _ _ _ _ _ _ _ _ _ _ _ _ _ _ _ _ _ _ _ _ _ _ _ _ _ _ _ _ _ _ _ _ _ _ _ _ _ _ _ _ _ _ _ _ _ _ _ _ _ _ _ _ _ _ _ _ _ _ _ _ _ _ _ _ _ _ _ _ _ _ _ _ _ _ _ _ _ _ _ _ _ _ _ _ _ _ _ _ _ _ _ _ _ _ _ _ _ _ _ _ _ _ _ _ _ _ _ _ _ _ _ _ _ _ _ _ _ _ _ _ _ _ _ _ _ _ _ _ _ _ _ _ _ _ _ _ _ _ _ _ _ _ _ _ _ _ _ _ _ _ _ _ _ _ _ _ _ _ _ _ _ _ _ _ _ _ _ _ _ _ _ _ _ _ _ _ _ _ _ _ _ _ _ _ _ _ _ _ _ _ _ _ _ _ _ _ _ _ _ _ _ _ _ _ _ _ _ _ _ _ _ _ _ _ _ _ _ _ _ _ _ _ _ _ _ _ _ _ _ _ _ _ _ _ _ _ _ ⟨hbw', HI.out.lo, HI.out.hk, by omega, ?_, HK.out⟩
                  rw [HH.out, pre_succ, EA.out, EB.out, mixS, EY.out]
end Go.Proofs.YtgdpbnmhhbnkgaaDoor.Cod

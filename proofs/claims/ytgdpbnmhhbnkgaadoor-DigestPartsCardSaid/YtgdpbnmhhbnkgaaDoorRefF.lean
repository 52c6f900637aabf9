/- The document's digest: one word of the schedule. -/
import Derived.Test.YtgdpbnmhhbnkgaaDoorRefBlk
namespace Go.Proofs.YtgdpbnmhhbnkgaaDoor.Cod
open Go.RowKit
set_option maxHeartbeats 8000000 in
set_option maxRecDepth 1000000 in
theorem F_block {K : Act → World → Prop} {Q' : Exit → Act → World → Prop} {u0 u1 u2 u3 u4 u5 u6 u7 u8 u10 u11 u12 u14 u15 u16 u17 u18 u19 u20 u21 u22 u23 u24 u25 u26 u27 u28 u29 u30 u31 u32 u33 u34 u35 u36 u37 u38 u39 u40 u41 u42 u43 u44 u45 u46 u47 u48 u49 u50 u51 u52 u53 u54 u55 u56 u57 u58 u59 u60 u61 u62 u63 u64 u65 u66 u67 u68 u69 u70 u71 u72 u73 u74 u75 u76 u77 u78 u79 u80 u81 u82 u83 u84 u85 u86 u87 u88 u89 u90 u91 u92 u93 u94 u95 u96 u97 u98 u99 u100 u101 u102 u103 u104 u105 u106 u107 u108 u109 u110 u111 u112 u113 u114 u115 u116 u117 u118 u119 u120 u121 u122 u123 u124 u125 u126 u127 u128 u129 u130 u131 u132 u133 u134 u135 u136 u137 u138 u139 u140 u141 u142 u143 u144 u145 u146 u147 u148 u149 u150 u151 u152 u153 u154 u155 u156 u157 u158 u159 u160 u161 u162 u163 u164 u165 u166 u167 u168 u169 u170 u171 u172 u173 u174 u175 u176 u177 u178 u179 u180 u181 u182 u183 u184 u185 u186 u187 u188 u189 u190 u191 u192 u193 u194 u195 u196 u197 u198 u199 u200 u201 u202 u203 u204 u205 u206 u207 u208 u209 u210 u211 u212 u213 u214 u215 u216 u217 u218 u219 u220 u221 u222 u223 u224 u225 u226 u227 u228 u229 u230 u231 u232 u233 u234 u235 u236 u237 u238 u239 u240 u241 u242 u243 u244 u245 u246 u247 u248 u249 u250 u251 u252 u253 u254 u255 u256 u257 u258 u259 u260 u261 u262 u263 u264 u265 u266 u267 u268 u269 u270 u271 u272 u273 u274 u275 u276 u277 u278 u279 u280 u281 u282 u283 u284 u285 u286 u287 u288 u289 u290 u291 u292 u293 u294 u295 u296 u297 u298 u299 u300 u301 u302 u303 u304 u305 u306 u307 u308 u309 u310 u311 u312 u313 u314 u315 u316 u317 u318 u319 u320 u321 u322 u323 u324 u325 : Value} {ds : List Deferred} {wo wr : World} {g cap j : Nat} {q13 : Int} (b : List UInt8) {i0 : TypeInfo} (hi : Tryd.prog.info? 39 = some i0) (hz0 : i0.zero = some (.int .u64 0)) (hz1 : i0.size = 1) (hz2 : i0.bytes = 8)
    (hq : q13 = (j : Int) + 16) (hlt : j + 16 < 64) (hbw : Below wo.heap.size wo wr) (hown : wr.ownsRow wo.heap.size 39 1 (.slice (some ⟨g, 0, none⟩) (j + 16) cap) (j + 16) (wl ((sched b).take (j + 16))))
    (hc : ∀ (j' : Nat) u, (wl ((sched b).take (j + 16)))[j']? = some u → wr.cell? ⟨g, j', none⟩ = some u)
    (hK : ∀ (v2 : Value) (wz : World) (x14 x15 x97 x98 x99 x100 x101 x102 x103 x104 x105 x106 x107 x108 x109 x110 x111 x112 x113 x114 x115 x116 x117 x118 x119 x120 x121 x122 x123 x124 x125 x126 x127 x128 x129 x130 x131 x132 x133 x134 x135 x136 x137 x138 x139 x140 x141 x142 x143 x144 x145 x146 x147 x148 x149 x150 x151 x152 x153 x154 x155 : Value), Below wo.heap.size wo wz → wz.ownsRow wo.heap.size 39 1 v2 (j + 16 + 1) (wl ((sched b).take (j + 16 + 1))) → K ⟨(u0 :: u1 :: u2 :: u3 :: u4 :: u5 :: u6 :: u7 :: u8 :: v2 :: u10 :: u11 :: u12 :: .int .i64 q13 :: x14 :: x15 :: u16 :: u17 :: u18 :: u19 :: u20 :: u21 :: u22 :: u23 :: u24 :: u25 :: u26 :: u27 :: u28 :: u29 :: u30 :: u31 :: u32 :: u33 :: u34 :: u35 :: u36 :: u37 :: u38 :: u39 :: u40 :: u41 :: u42 :: u43 :: u44 :: u45 :: u46 :: u47 :: u48 :: u49 :: u50 :: u51 :: u52 :: u53 :: u54 :: u55 :: u56 :: u57 :: u58 :: u59 :: u60 :: u61 :: u62 :: u63 :: u64 :: u65 :: u66 :: u67 :: u68 :: u69 :: u70 :: u71 :: u72 :: u73 :: u74 :: u75 :: u76 :: u77 :: u78 :: u79 :: u80 :: u81 :: u82 :: u83 :: u84 :: u85 :: u86 :: u87 :: u88 :: u89 :: u90 :: u91 :: u92 :: u93 :: u94 :: u95 :: u96 :: x97 :: x98 :: x99 :: x100 :: x101 :: x102 :: x103 :: x104 :: x105 :: x106 :: x107 :: x108 :: x109 :: x110 :: x111 :: x112 :: x113 :: x114 :: x115 :: x116 :: x117 :: x118 :: x119 :: x120 :: x121 :: x122 :: x123 :: x124 :: x125 :: x126 :: x127 :: x128 :: x129 :: x130 :: x131 :: x132 :: x133 :: x134 :: x135 :: x136 :: x137 :: x138 :: x139 :: x140 :: x141 :: x142 :: x143 :: x144 :: x145 :: x146 :: x147 :: x148 :: x149 :: x150 :: x151 :: x152 :: x153 :: x154 :: x155 :: u156 :: u157 :: u158 :: u159 :: u160 :: u161 :: u162 :: u163 :: u164 :: u165 :: u166 :: u167 :: u168 :: u169 :: u170 :: u171 :: u172 :: u173 :: u174 :: u175 :: u176 :: u177 :: u178 :: u179 :: u180 :: u181 :: u182 :: u183 :: u184 :: u185 :: u186 :: u187 :: u188 :: u189 :: u190 :: u191 :: u192 :: u193 :: u194 :: u195 :: u196 :: u197 :: u198 :: u199 :: u200 :: u201 :: u202 :: u203 :: u204 :: u205 :: u206 :: u207 :: u208 :: u209 :: u210 :: u211 :: u212 :: u213 :: u214 :: u215 :: u216 :: u217 :: u218 :: u219 :: u220 :: u221 :: u222 :: u223 :: u224 :: u225 :: u226 :: u227 :: u228 :: u229 :: u230 :: u231 :: u232 :: u233 :: u234 :: u235 :: u236 :: u237 :: u238 :: u239 :: u240 :: u241 :: u242 :: u243 :: u244 :: u245 :: u246 :: u247 :: u248 :: u249 :: u250 :: u251 :: u252 :: u253 :: u254 :: u255 :: u256 :: u257 :: u258 :: u259 :: u260 :: u261 :: u262 :: u263 :: u264 :: u265 :: u266 :: u267 :: u268 :: u269 :: u270 :: u271 :: u272 :: u273 :: u274 :: u275 :: u276 :: u277 :: u278 :: u279 :: u280 :: u281 :: u282 :: u283 :: u284 :: u285 :: u286 :: u287 :: u288 :: u289 :: u290 :: u291 :: u292 :: u293 :: u294 :: u295 :: u296 :: u297 :: u298 :: u299 :: u300 :: u301 :: u302 :: u303 :: u304 :: u305 :: u306 :: u307 :: u308 :: u309 :: u310 :: u311 :: u312 :: u313 :: u314 :: u315 :: u316 :: u317 :: u318 :: u319 :: u320 :: u321 :: u322 :: u323 :: u324 :: u325 :: []).toArray, ds⟩ wz) :
    (Code.block 11 (blk Tryd.f31 11)).wp Tryd.prog (Exit.then K Q') ⟨(u0 :: u1 :: u2 :: u3 :: u4 :: u5 :: u6 :: u7 :: u8 :: .slice (some ⟨g, 0, none⟩) (j + 16) cap :: u10 :: u11 :: u12 :: .int .i64 q13 :: u14 :: u15 :: u16 :: u17 :: u18 :: u19 :: u20 :: u21 :: u22 :: u23 :: u24 :: u25 :: u26 :: u27 :: u28 :: u29 :: u30 :: u31 :: u32 :: u33 :: u34 :: u35 :: u36 :: u37 :: u38 :: u39 :: u40 :: u41 :: u42 :: u43 :: u44 :: u45 :: u46 :: u47 :: u48 :: u49 :: u50 :: u51 :: u52 :: u53 :: u54 :: u55 :: u56 :: u57 :: u58 :: u59 :: u60 :: u61 :: u62 :: u63 :: u64 :: u65 :: u66 :: u67 :: u68 :: u69 :: u70 :: u71 :: u72 :: u73 :: u74 :: u75 :: u76 :: u77 :: u78 :: u79 :: u80 :: u81 :: u82 :: u83 :: u84 :: u85 :: u86 :: u87 :: u88 :: u89 :: u90 :: u91 :: u92 :: u93 :: u94 :: u95 :: u96 :: u97 :: u98 :: u99 :: u100 :: u101 :: u102 :: u103 :: u104 :: u105 :: u106 :: u107 :: u108 :: u109 :: u110 :: u111 :: u112 :: u113 :: u114 :: u115 :: u116 :: u117 :: u118 :: u119 :: u120 :: u121 :: u122 :: u123 :: u124 :: u125 :: u126 :: u127 :: u128 :: u129 :: u130 :: u131 :: u132 :: u133 :: u134 :: u135 :: u136 :: u137 :: u138 :: u139 :: u140 :: u141 :: u142 :: u143 :: u144 :: u145 :: u146 :: u147 :: u148 :: u149 :: u150 :: u151 :: u152 :: u153 :: u154 :: u155 :: u156 :: u157 :: u158 :: u159 :: u160 :: u161 :: u162 :: u163 :: u164 :: u165 :: u166 :: u167 :: u168 :: u169 :: u170 :: u171 :: u172 :: u173 :: u174 :: u175 :: u176 :: u177 :: u178 :: u179 :: u180 :: u181 :: u182 :: u183 :: u184 :: u185 :: u186 :: u187 :: u188 :: u189 :: u190 :: u191 :: u192 :: u193 :: u194 :: u195 :: u196 :: u197 :: u198 :: u199 :: u200 :: u201 :: u202 :: u203 :: u204 :: u205 :: u206 :: u207 :: u208 :: u209 :: u210 :: u211 :: u212 :: u213 :: u214 :: u215 :: u216 :: u217 :: u218 :: u219 :: u220 :: u221 :: u222 :: u223 :: u224 :: u225 :: u226 :: u227 :: u228 :: u229 :: u230 :: u231 :: u232 :: u233 :: u234 :: u235 :: u236 :: u237 :: u238 :: u239 :: u240 :: u241 :: u242 :: u243 :: u244 :: u245 :: u246 :: u247 :: u248 :: u249 :: u250 :: u251 :: u252 :: u253 :: u254 :: u255 :: u256 :: u257 :: u258 :: u259 :: u260 :: u261 :: u262 :: u263 :: u264 :: u265 :: u266 :: u267 :: u268 :: u269 :: u270 :: u271 :: u272 :: u273 :: u274 :: u275 :: u276 :: u277 :: u278 :: u279 :: u280 :: u281 :: u282 :: u283 :: u284 :: u285 :: u286 :: u287 :: u288 :: u289 :: u290 :: u291 :: u292 :: u293 :: u294 :: u295 :: u296 :: u297 :: u298 :: u299 :: u300 :: u301 :: u302 :: u303 :: u304 :: u305 :: u306 :: u307 :: u308 :: u309 :: u310 :: u311 :: u312 :: u313 :: u314 :: u315 :: u316 :: u317 :: u318 :: u319 :: u320 :: u321 :: u322 :: u323 :: u324 :: u325 :: []).toArray, ds⟩ wr := by
  subst hq
  conv => enter [2, 2]; whnf
  have HKK := Lib.hid hK
  clear hK
  have hW := sched_len b
  have gW : ∀ i, i < 64 → (sched b)[i]? = some ((sched b).getD i 0) := fun i hi => by rw [List.getD_eq_getElem?_getD, List.getElem?_eq_getElem (by omega)]; rfl
  have cl : ∀ i, i < j + 16 → wr.cell? ⟨g, i, none⟩ = some (.int .u64 ((sched b).getD i 0 : Nat)) := fun i hi => hc i _ (wl_get _ _ _ (by rw [List.getElem?_take, if_pos hi]; exact gW i (by omega)))
  have c0 := cl j (by omega)
  have c1 := cl (j + 1) (by omega)
  have c9 := cl (j + 9) (by omega)
  have c14 := cl (j + 14) (by omega)
  clear cl hc
  have hnx : (sched b)[j + 16]? = some (((sched b).getD j 0 + sg0 ((sched b).getD (j + 1) 0) + (sched b).getD (j + 9) 0 + sg1 ((sched b).getD (j + 14) 0)) % 4294967296) := by
    have h1 := sched_hi b (j + 16) (by omega) hlt
    rw [nextW_take _ _ (by omega) hlt, show j + 16 - 16 = j by omega, show j + 16 - 15 = j + 1 by omega, show j + 16 - 7 = j + 9 by omega, show j + 16 - 2 = j + 14 by omega] at h1
    exact h1
  have l0 : (sched b).getD j 0 < 4294967296 := sched_lt b j _ (gW j (by omega))
  have l1 : (sched b).getD (j + 1) 0 < 4294967296 := sched_lt b (j + 1) _ (gW (j + 1) (by omega))
  have l9 : (sched b).getD (j + 9) 0 < 4294967296 := sched_lt b (j + 9) _ (gW (j + 9) (by omega))
  have l14 : (sched b).getD (j + 14) 0 < 4294967296 := sched_lt b (j + 14) _ (gW (j + 14) (by omega))
  clear gW
  generalize (sched b).getD j 0 = y0 at c0 hnx l0
  generalize (sched b).getD (j + 1) 0 = y1 at c1 hnx l1
  generalize (sched b).getD (j + 9) 0 = y9 at c9 hnx l9
  generalize (sched b).getD (j + 14) 0 = y14 at c14 hnx l14
  obtain ⟨x, ex⟩ : ∃ x, x = (y0 + sg0 y1 + y9 + sg1 y14) % 4294967296 := ⟨_, rfl⟩
  have hs0 := sg0_lt l1
  have hs1 := sg1_lt l14
  have he0 := sg0_expr y1 l1
  rw [show ((y1 / 8 : Nat) : Int) = (y1 : Int) / 8 from by omega] at he0
  have he1 := sg1_expr y14 l14
  rw [show ((y14 / 1024 : Nat) : Int) = (y14 : Int) / 1024 from by omega] at he1
  have htk : wl ((sched b).take (j + 16 + 1)) = wl ((sched b).take (j + 16)) ++ [.int .u64 (x : Nat)] := by
    unfold wl; rw [List.take_add_one, hnx, ex, List.map_append]; rfl
  generalize sg0 y1 = z0 at ex he0 hs0
  generalize sg1 y14 = z1 at ex he1 hs1
  have hx : ((y0 : Int) + (z0 : Int) + (y9 : Int) + (z1 : Int)) % 4294967296 = (x : Int) := by omega
  have HTK := Lib.hid htk
  clear hnx htk ex hW
  have b0 : (0 : Int) ≤ (j : Int) := by omega
  have b1 : (j : Int) < 48 := by omega
  have b2 : (j : Int) + 16 < 64 := by omega
  have M1 : Hid (j + 16 + 1 ≤ maxLen) := Lib.hid (by unfold maxLen; omega)
  have M2 : Hid ((j + 16 + 1) * 8 ≤ 140737488355328) := Lib.hid (by omega)
  have q0 : IntKind.i64.wrap ((j : Int) + 16 - 16) = (j : Int) := (IntWalk.i64_in _ (by omega)).trans (by omega)
  have q00 : IntKind.i64.wrap (j : Int) = (j : Int) := IntWalk.i64_in _ (by omega)
  have q1 : IntKind.i64.wrap ((j : Int) + 16 - 15) = (j : Int) + 1 := (IntWalk.i64_in _ (by omega)).trans (by omega)
  have q2 : IntKind.i64.wrap ((j : Int) + 16 - 2) = (j : Int) + 14 := (IntWalk.i64_in _ (by omega)).trans (by omega)
  have q7 : IntKind.i64.wrap ((j : Int) + 16 - 7) = (j : Int) + 9 := (IntWalk.i64_in _ (by omega)).trans (by omega)
  have p1 : (0 : Int) ≤ (j : Int) + 1 := by omega
  have p9 : (0 : Int) ≤ (j : Int) + 9 := by omega
  have p14 : (0 : Int) ≤ (j : Int) + 14 := by omega
  have r0 : (j : Int) < (j : Int) + 16 := by omega
  have r1 : (j : Int) + 1 < (j : Int) + 16 := by omega
  have r9 : (j : Int) + 9 < (j : Int) + 16 := by omega
  have r14 : (j : Int) + 14 < (j : Int) + 16 := by omega
  have t1 : ((j : Int) + 1).toNat = j + 1 := by omega
  have t9 : ((j : Int) + 9).toNat = j + 9 := by omega
  have t14 : ((j : Int) + 14).toNat = j + 14 := by omega
  go_wp2
  have k7 := Lib.hid fun v => R_t y1 7 7 rfl l1 (by decide) v
  have k18 := Lib.hid fun v => R_t y1 18 18 rfl l1 (by decide) v
  have k3 := Lib.hid fun v => R_d y1 3 3 8 rfl rfl l1 (by decide) v
  have k17 := Lib.hid fun v => R_t y14 17 17 rfl l14 (by decide) v
  have k19 := Lib.hid fun v => R_t y14 19 19 rfl l14 (by decide) v
  have k10 := Lib.hid fun v => R_d y14 10 10 1024 rfl rfl l14 (by decide) v
  go_quiet (first
    | (with_reducible exact Calls.quiet_of_same (k7.out _))
    | (with_reducible exact Calls.quiet_of_same (k18.out _))
    | (with_reducible exact Calls.quiet_of_same (k3.out _)))
  have hbq : Below wo.heap.size wo (wr.drewN nq) := ⟨hbw.os, hbw.tape, hbw.output, hbw.size, hbw.block⟩
  have hoq : (wr.drewN nq).ownsRow wo.heap.size 39 1 (.slice (some ⟨g, 0, none⟩) (j + 16) cap) (j + 16) (wl ((sched b).take (j + 16))) := hown
  have c0 : (wr.drewN nq).cell? ⟨g, j, none⟩ = some (.int .u64 (y0 : Nat)) := c0
  have c9 : (wr.drewN nq).cell? ⟨g, j + 9, none⟩ = some (.int .u64 (y9 : Nat)) := c9
  have c14 : (wr.drewN nq).cell? ⟨g, j + 14, none⟩ = some (.int .u64 (y14 : Nat)) := c14
  clear hbw hown c1
  obtain ⟨wq, ewq⟩ : ∃ wq, wr.drewN nq = wq := ⟨_, rfl⟩
  rw [ewq] at hbq hoq c0 c9 c14 ⊢
  clear ewq
  go_wp2
  go_quiet (first
    | (with_reducible exact Calls.quiet_of_same (k17.out _))
    | (with_reducible exact Calls.quiet_of_same (k19.out _))
    | (with_reducible exact Calls.quiet_of_same (k10.out _)))
  have hbr : Below wo.heap.size wo (wq.drewN nq) := ⟨hbq.os, hbq.tape, hbq.output, hbq.size, hbq.block⟩
  have hor : (wq.drewN nq).ownsRow wo.heap.size 39 1 (.slice (some ⟨g, 0, none⟩) (j + 16) cap) (j + 16) (wl ((sched b).take (j + 16))) := hoq
  have c0 : (wq.drewN nq).cell? ⟨g, j, none⟩ = some (.int .u64 (y0 : Nat)) := c0
  have c9 : (wq.drewN nq).cell? ⟨g, j + 9, none⟩ = some (.int .u64 (y9 : Nat)) := c9
  clear hbq hoq c14
  obtain ⟨wz, ewz⟩ : ∃ wz, wq.drewN nq = wz := ⟨_, rfl⟩
  rw [ewz] at hbr hor c0 c9 ⊢
  clear ewz
  have hzr := hbr.size
  obtain ⟨v2, w2, hrun, hown2, hgrow2⟩ := app_one0 x i0 hi hz0 hz1 hz2 hor M1.out M2.out hzr
  have HOWN2 := Lib.hid hown2
  have HGROW2 := Lib.hid hgrow2
  have HOR := Lib.hid hor
  clear hown2 hgrow2 hor
  obtain ⟨V1, eV1⟩ : ∃ V1, wz.drew.alloc (.cells #[.int .u64 (x : Nat)] 39) = V1 := ⟨_, rfl⟩
  have EV1 := Lib.hid eV1
  go_wp2
  refine region_fix2 [17, 18] (fun n W' => W' = if n = 0 then wz.drew else if n = 1 then V1 else w2) (by kernel_rfl) (by kernel_rfl) rfl ?_
  refine fix2_step (.slice (some ⟨g, 0, none⟩) (j + 16) cap) (by kernel_rfl) rfl (fun J s _ hJ w hw => ?_) ?_
  · go_simp
    exact hJ _ rfl
  iterate 16
    refine fix2_one 0 wz.drew (fun w h => h) rfl (by kernel_rfl) rfl (fun J hJ => ?_)
    go_simp
    refine hJ _ ?_
    clear hJ J
  refine fix2_run 0 wz.drew V1 (.slice (some ⟨wz.heap.size, 0, none⟩) 1 1) (fun w h => h) rfl (by kernel_rfl) rfl (exec_slice1 23 (.tmp 153) (.int .u64 (x : Nat)) rfl (by go_simp; exact wsum y0 z0 y9 z1 x l0 hs0 l9 hs1 hx) (by rw [← EV1.out]; exact slice_one _ _)) ?_
  refine fix2_run 1 V1 w2 v2 (fun w h => h) rfl (by kernel_rfl) rfl (exec_append (.tmp 137) (.tmp 154) 23 rfl (.slice (some ⟨g, 0, none⟩) (j + 16) cap) (.slice (some ⟨wz.heap.size, 0, none⟩) 1 1) v2 (by go_simp) (by go_simp) (eV1 ▸ hrun)) ?_
  refine fix2_one 2 w2 (fun w h => h) rfl (by kernel_rfl) rfl (fun J hJ => ?_)
  go_simp
  refine hJ _ ?_
  clear hJ J
  refine fix2_nil ?_
  rintro w' rfl
  go_wp2
  refine HKK.out _ _ _ _ _ _ _ _ _ _ _ _ _ _ _ _ _ _ _ _ _ _ _ _ _ _ _ _ _ _ _ _ _ _ _ _ _ _ _ _ _ _ _ _ _ _ _ _ _ _ _ _ _ _ _ _ _ _ _ _ _ _ _ ?_ ?_
  · exact (hbr.drew.alloc hbr.size _).grown HGROW2.out (by have := hbr.size; simp; omega) (fun j hj => (HOR.out.drew.lt j hj).1)
  · rw [HTK.out]; exact HOWN2.out
end Go.Proofs.YtgdpbnmhhbnkgaaDoor.Cod

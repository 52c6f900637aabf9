/- The document's digest. Contract by what it means. -/
import Derived.Test.YtgdpbnmhhbnkgaaDoorRefC
import Derived.Deep.CutBlock
namespace Go.Proofs.YtgdpbnmhhbnkgaaDoor.Cod
open Go.RowKit
set_option maxHeartbeats 8000000 in
set_option maxRecDepth 1000000 in
theorem R_dig (s : ByteArray) (hs : s.size ≤ 140737488350000) (w : World) : Calls Tryd.prog 31 #[.string s] w fun e w' => e = .returned (.string (S (sha (bl s)))) ∧ Below w.heap.size w w' := by
  have hconv := conv1
  have hl := bl_len s
  obtain ⟨c, ec⟩ : ∃ c, c = (119 - s.size % 64) % 64 := ⟨_, rfl⟩
  have hc64 : c < 64 := by omega
  have hpad : padL (bl s) = (bl s ++ 128 :: List.replicate c 0) ++ be8 (s.size * 8) := by unfold padL; rw [hl, ← ec]
  obtain ⟨P, eP⟩ : ∃ P, padL (bl s) = P := ⟨_, rfl⟩
  have hP1 : P.length % 64 = 0 := by rw [← eP]; exact padL_len _
  have hP2 : P.length ≤ s.size + 72 := by rw [← eP, ← hl]; exact padL_size _
  have hsha : sha (bl s) = (pre P (P.length / 64)).list.flatMap out4 := by rw [← pre_all, ← eP]; rfl
  rw [eP] at hpad
  have HPAD := Lib.hid hpad
  have HSHA := Lib.hid hsha
  have EC := Lib.hid ec
  clear hpad hsha eP ec
  have hu64 : IntKind.u64.wrap (s.size : Int) = (s.size : Int) := wrapu64 _ (by omega)
  have hu8 : IntKind.u64.wrap ((s.size : Int) * 8) = ((s.size * 8 : Nat) : Int) := by
    have := wrapu64 (s.size * 8) (by omega)
    rw [← this]; congr 1
  go_enter Tryd.func31, Tryd.ntmps31
  go_wp2
  go_loopw [0] (fun u wr => ZerRel w s c u wr) (fun u _ => match u with | .string t => s.size + 64 - t.size | _ => 0)
  case atStart => exact ⟨0, _, by omega, rfl, by rw [bl_append]; simp [bl], (Below.refl _ _).alloc (Nat.le_refl _) _⟩
  case round =>
    obtain ⟨z, t, hz, rfl, ht, hb⟩ := hrel
    have hts : t.size = s.size + 1 + z := by rw [bl_size ht]; simp [hl]; omega
    have HT := Lib.hid ht
    clear ht
    have hlw : ∀ k, k < 8 → 256 ^ k ≤ 256 ^ 7 := fun k hk => Nat.pow_le_pow_right (by omega) (by omega)
    by_cases hlt : z < c
    · have e1 : ¬ (t.size : Int) % 64 = 56 := by have := EC.out; omega
      have e2 : ((t.size : Int) % 64 != 56) = true := by simpa using e1
      have HTS := Lib.hid hts
      have hts' : t.size ≤ s.size + 64 := by omega
      clear hts e1
      go_wp2
      refine ⟨⟨z + 1, _, by omega, rfl, ?_, hb.alloc hb.size _⟩, ?_⟩
      · rw [bl_append, HT.out, List.replicate_succ']; simp [bl]
      · have := HTS.out
        simp [ByteArray.size_append]
        have : (⟨#[0]⟩ : ByteArray).size = 1 := rfl
        omega
    · obtain rfl : z = c := by omega
      have e1 : (t.size : Int) % 64 = 56 := by have := EC.out; omega
      have e2 : ((t.size : Int) % 64 != 56) = false := by simpa using e1
      have hts' : t.size ≤ s.size + 64 := by omega
      clear hts e1
      go_wp2
      go_loopw [3, 4, 5] (fun n u i wr => TailRel w (s.size * 8) n u i wr) (fun _ _ i _ => 8 - (intOf i).toNat)
      case atStart => exact ⟨0, _, by omega, rfl, by simp, rfl, by simp [bl, be8], hb⟩
      case round =>
        clear hb
        obtain ⟨k, t2, hk, rfl, rfl, rfl, ht2, hb⟩ := hrel
        have hts2 : t2.size = k := by rw [bl_size ht2]; simp [be8_len]; omega
        have HT2 := Lib.hid ht2
        clear ht2
        by_cases hlt : k < 8
        · have hN : s.size * 8 / 256 ^ k ≤ s.size * 8 := Nat.div_le_self _ _
          have hN2 : s.size * 8 / 256 ^ (k + 1) = s.size * 8 / 256 ^ k / 256 := by rw [Nat.pow_succ, Nat.div_div_eq_div_mul]
          have HD := be8_drop (s.size * 8) k hlt
          generalize s.size * 8 / 256 ^ k = N at hN hN2 HD
          have HN2 := Lib.hid hN2
          have HDD := Lib.hid HD
          clear hN2 HD
          go_wp2
          refine ⟨⟨k + 1, _, by omega, by go_num, by rw [HN2.out]; go_num, rfl, ?_, hb.alloc hb.size _⟩, by simp [intOf]; omega⟩
          rw [bl_append, HT2.out, HDD.out]
          simp [bl]
        · obtain rfl : k = 8 := by omega
          have hbq : bl (t ++ t2) = P := by rw [bl_append, HT.out, HT2.out, HPAD.out]; simp
          obtain ⟨Q, hQ⟩ : ∃ Q, t ++ t2 = Q := ⟨_, rfl⟩
          rw [hQ] at hbq
          have hQs : Q.size = P.length := bl_size hbq
          have HBQ := Lib.hid hbq
          have hQb : Q.size ≤ 140737488350072 := by omega
          have HQS := Lib.hid hQs
          clear hbq hQs
          obtain ⟨vz, evz⟩ : ∃ v, Value.int IntKind.u64 ((s.size * 8 / 256 ^ 8 : Nat) : Int) = v := ⟨_, rfl⟩
          rw [evz]
          clear evz
          obtain ⟨w5, rfl⟩ : ∃ w5 : World, w5 = wr := ⟨_, rfl⟩
          have hw5 := hb.size
          go_wp2_with (go_at_call 77; ((with_reducible refine (R_keys _).mono ?_); rintro e w6 ⟨rfl, rfl⟩))
          go_loopw [8] (fun u wr => BlkRel w P w5.heap.size (w5.heap.size + 1) u wr) (fun u _ => Q.size - (intOf u).toNat)
          case atStart => exact ⟨0, by omega, rfl, (hb.alloc hb.size _).alloc (by simp; omega) _, hw5, by omega, by simp, heap_alloc2_old _ _ _, heap_alloc2_new _ _ _⟩
          case round =>
            obtain ⟨m, hm, rfl, hI⟩ := hrel
            by_cases hlt : m < P.length / 64
            · obtain ⟨A, eA⟩ : ∃ A, 64 * m = A := ⟨_, rfl⟩
              have hA0 : (A : Int) < (Q.size : Int) := by have := HQS.out; omega
              have HI := Lib.hid hI
              rw [eA]
              have EA := Lib.hid eA
              clear eA hI
              go_upto_block 5 with (fail)
              refine C_block HBQ.out hQb hP1 hlt EA.out HI.out ?_
              intro wz x9 x10 x11 x12 x13 x14 x15 x16 x17 x18 x19 x20 x21 x22 x23 x24 x68 x69 x70 x71 x72 x73 x74 x75 x76 x77 x78 x79 x80 x81 x82 x83 x84 x85 x86 x87 x88 x89 x90 x91 x92 x93 x94 x95 x96 x97 x98 x99 x100 x101 x102 x103 x104 x105 x106 x107 x108 x109 x110 x111 x112 x113 x114 x115 x116 x117 x118 x119 x120 x121 x122 x123 x124 x125 x126 x127 x128 x129 x130 x131 x132 x133 x134 x135 x136 x137 x138 x139 x140 x141 x142 x143 x144 x145 x146 x147 x148 x149 x150 x151 x152 x153 x154 x155 x156 x157 x158 x159 x160 x161 x162 x163 x164 x165 x166 x167 x168 x169 x170 x171 x172 x173 x174 x175 x176 x177 x178 x179 x180 x181 x182 x183 x184 x185 x186 x187 x188 x189 x190 x191 x192 x193 x194 x195 x196 x197 x198 x199 x200 x201 x202 x203 x204 x205 x206 x207 x208 x209 x210 x211 x212 x213 x214 x215 x216 x217 x218 x219 x220 x221 x222 x223 x224 x225 x226 x227 x228 x229 x230 x231 x232 x233 x234 x235 x236 x237 x238 x239 x240 x241 x242 x243 x244 x245 x246 x247 x248 x249 x250 x251 x252 x253 x254 x255 x256 x257 x258 x259 x260 x261 x262 x263 x264 x265 x266 x267 x268 x269 x270 x271 x272 x273 x274 x275 x276 x277 x278 x279 x280 x281 x282 x283 x284 x285 x286 x287 x288 x289 x290 x291 x292 x293 x294 x295 x296 x297 x298 x299 hIz
              have HIZ := Lib.hid hIz
              clear hIz HI
              go_wp2
              go_roundw
              case rel => exact ⟨m + 1, by omega, by rw [← EA.out]; go_num, HIZ.out⟩
              case measure => simp [intOf]; have := HQS.out; omega
            · obtain rfl : m = P.length / 64 := by omega
              have hA : ¬ ((64 * (P.length / 64) : Nat) : Int) < (Q.size : Int) := by have := HQS.out; omega
              obtain ⟨A, eA⟩ : ∃ A, 64 * (P.length / 64) = A := ⟨_, rfl⟩
              rw [eA] at hA ⊢
              clear eA
              obtain ⟨y, ey⟩ : ∃ y, pre P (P.length / 64) = y := ⟨_, rfl⟩
              have hyo : y.ok := by rw [← ey]; exact pre_ok _ _
              have hbh := hI.hh
              rw [ey] at hbh
              have hb9 := hI.b
              have EY := Lib.hid ey
              have HBH := Lib.hid hbh
              clear ey hbh hI
              have hconv4 := conv4
              obtain ⟨wo, rfl⟩ : ∃ wo : World, wo = wr := ⟨_, rfl⟩
              go_wp2
              go_loopw [25, 302] (fun u i wr => OutSRel wo y u i wr) (fun _ i _ => 8 - (intOf i).toNat)
              case atStart => exact ⟨0, _, by omega, rfl, rfl, by simp [bl], Below.refl _ _⟩
              case round =>
                obtain ⟨k, t, hk, rfl, rfl, ht, hbo⟩ := hrel
                have hts : t.size = 4 * k := by rw [bl_size ht]; exact out4_len y k hk
                have HT := Lib.hid ht
                have hts' : t.size ≤ 32 := by omega
                clear ht hts
                by_cases hlt : k < 8
                · obtain ⟨a, ha⟩ : ∃ a, y.list[k]? = some a := ⟨_, List.getElem?_eq_getElem (by rw [list8]; exact hlt)⟩
                  have hal := list_lt hyo ha
                  have c1 : wr.cell? ⟨w5.heap.size, k, none⟩ = some (.int .u64 (a : Nat)) := by
                    have h1 : w5.heap.size < wo.heap.size := (Array.getElem?_eq_some_iff.1 HBH.out).1
                    exact (cell_of_row _ _ _ _ _ _ ((hbo.block _ h1).trans HBH.out)).trans (words64_get _ _ _ ha)
                  have htk : (y.list.take (k + 1)).flatMap out4 = (y.list.take k).flatMap out4 ++ out4 a := by rw [List.take_add_one, ha, List.flatMap_append]; simp
                  have HTK := Lib.hid htk
                  clear htk ha
                  have b0 : (0 : Int) ≤ (k : Int) := by omega
                  have b1 : (k : Int) < 8 := by omega
                  go_wp2
                  refine ⟨⟨k + 1, _, by omega, by go_num, rfl, ?_, hbo.alloc hbo.size _⟩, by simp [intOf]; omega⟩
                  rw [bl_append, HT.out, HTK.out]
                  simp [bl, out4]
                · obtain rfl : k = 8 := by omega
                  rw [show ((8 : Nat) : Int) = 8 from rfl]
                  go_wp2
                  go_ret
                  exact ⟨ret_str (eq_S (by rw [HT.out, HSHA.out, EY.out]; rfl)), hb9.trans (hbo.mono hb9.size)⟩
end Go.Proofs.YtgdpbnmhhbnkgaaDoor.Cod

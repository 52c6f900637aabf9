/- SHA-256 on numbers; plain Lean. -/
import Derived.Below
import Derived.Laws.Entries
namespace Go.Proofs.YtdpkodhfelnedaaDoor.Cod
def rotr (n x : Nat) : Nat := x / 2 ^ n + x % 2 ^ n * 2 ^ (32 - n)
def sg0 (x : Nat) : Nat := (rotr 7 x ^^^ rotr 18 x) ^^^ (x / 8)
def sg1 (x : Nat) : Nat := (rotr 17 x ^^^ rotr 19 x) ^^^ (x / 1024)
def Sg0 (x : Nat) : Nat := (rotr 2 x ^^^ rotr 13 x) ^^^ rotr 22 x
def Sg1 (x : Nat) : Nat := (rotr 6 x ^^^ rotr 11 x) ^^^ rotr 25 x
def chs (e f g : Nat) : Nat := (e &&& f) ^^^ ((4294967295 - e) &&& g)
def maj (a b c : Nat) : Nat := ((a &&& b) ^^^ (a &&& c)) ^^^ (b &&& c)
def be4 (b : List UInt8) (k : Nat) : Nat := (((b.getD (4 * k) 0).toNat * 256 + (b.getD (4 * k + 1) 0).toNat) * 256 + (b.getD (4 * k + 2) 0).toNat) * 256 + (b.getD (4 * k + 3) 0).toNat
def w16 (b : List UInt8) : List Nat := (List.range 16).map (be4 b)
def nextW (w : List Nat) : Nat := (w.getD (w.length - 16) 0 + sg0 (w.getD (w.length - 15) 0) + w.getD (w.length - 7) 0 + sg1 (w.getD (w.length - 2) 0)) % 4294967296
def extF (f : List Nat → Nat) : Nat → List Nat → List Nat | 0, w => w | n + 1, w => extF f n (w ++ [f w])
def sched (b : List UInt8) : List Nat := extF nextW 48 (w16 b)
structure S8 where
  (a b c d e f g h : Nat)
def rnd (x : S8) (p : Nat × Nat) : S8 :=
  let t := (x.h + Sg1 x.e + chs x.e x.f x.g + p.1 + p.2) % 4294967296
  let u := (Sg0 x.a + maj x.a x.b x.c) % 4294967296
  ⟨(t + u) % 4294967296, x.a, x.b, x.c, (x.d + t) % 4294967296, x.e, x.f, x.g⟩
def KEYS : List Nat := [1116352408, 1899447441, 3049323471, 3921009573, 961987163, 1508970993, 2453635748, 2870763221, 3624381080, 310598401, 607225278, 1426881987, 1925078388, 2162078206, 2614888103, 3248222580, 3835390401, 4022224774, 264347078, 604807628, 770255983, 1249150122, 1555081692, 1996064986, 2554220882, 2821834349, 2952996808, 3210313671, 3336571891, 3584528711, 113926993, 338241895, 666307205, 773529912, 1294757372, 1396182291, 1695183700, 1986661051, 2177026350, 2456956037, 2730485921, 2820302411, 3259730800, 3345764771, 3516065817, 3600352804, 4094571909, 275423344, 430227734, 506948616, 659060556, 883997877, 958139571, 1322822218, 1537002063, 1747873779, 1955562222, 2024104815, 2227730452, 2361852424, 2428436474, 2756734187, 3204031479, 3329325298]
def STARTS : List Nat := [1779033703, 3144134277, 1013904242, 2773480762, 1359893119, 2600822924, 528734635, 1541459225]
def H0 : S8 := ⟨1779033703, 3144134277, 1013904242, 2773480762, 1359893119, 2600822924, 528734635, 1541459225⟩
def S8.list (x : S8) : List Nat := [x.a, x.b, x.c, x.d, x.e, x.f, x.g, x.h]
def rnds (x : S8) (W : List Nat) (k : Nat) : S8 := ((KEYS.zip W).take k).foldl rnd x
def addS (x y : S8) : S8 := ⟨(x.a + y.a) % 4294967296, (x.b + y.b) % 4294967296, (x.c + y.c) % 4294967296, (x.d + y.d) % 4294967296, (x.e + y.e) % 4294967296, (x.f + y.f) % 4294967296, (x.g + y.g) % 4294967296, (x.h + y.h) % 4294967296⟩
def mixS (x : S8) (b : List UInt8) : S8 := addS x (rnds x (sched b) 64)
def blks : Nat → S8 → List UInt8 → S8 | 0, h, _ => h | n + 1, h, l => blks n (mixS h (l.take 64)) (l.drop 64)
def be8 (n : Nat) : List UInt8 := (List.range 8).map fun i => UInt8.ofNat (n / 256 ^ (7 - i) % 256)
def padL (l : List UInt8) : List UInt8 := l ++ 128 :: List.replicate ((119 - l.length % 64) % 64) 0 ++ be8 (l.length * 8)
def out4 (x : Nat) : List UInt8 := [UInt8.ofNat (x / 16777216), UInt8.ofNat (x / 65536 % 256), UInt8.ofNat (x / 256 % 256), UInt8.ofNat (x % 256)]
def sha (l : List UInt8) : List UInt8 := (blks ((padL l).length / 64) H0 (padL l)).list.flatMap out4
/-! ### facts -/
theorem rotr_lt (n x : Nat) (hn : n ≤ 32) (hx : x < 4294967296) : rotr n x < 4294967296 := by
  have e : 2 ^ n * 2 ^ (32 - n) = 4294967296 := by rw [← Nat.pow_add, show n + (32 - n) = 32 by omega]
  have h1 : x / 2 ^ n < 2 ^ (32 - n) := (Nat.div_lt_iff_lt_mul (Nat.two_pow_pos n)).2 (by rw [Nat.mul_comm, e]; exact hx)
  have h2 : x % 2 ^ n < 2 ^ n := Nat.mod_lt _ (Nat.two_pow_pos n)
  have h3 : x % 2 ^ n * 2 ^ (32 - n) ≤ (2 ^ n - 1) * 2 ^ (32 - n) := Nat.mul_le_mul_right _ (by omega)
  have h4 : (2 ^ n - 1) * 2 ^ (32 - n) + 2 ^ (32 - n) = 4294967296 := by
    rw [← e]
    have : 2 ^ n - 1 + 1 = 2 ^ n := Nat.sub_add_cancel (Nat.two_pow_pos n)
    rw [← Nat.succ_mul, Nat.succ_eq_add_one, this]
  unfold rotr
  omega
theorem xor_lt {a b : Nat} (ha : a < 4294967296) (hb : b < 4294967296) : a ^^^ b < 4294967296 := Nat.xor_lt_two_pow (n := 32) ha hb
theorem and_lt' {a b : Nat} (hb : b < 4294967296) : a &&& b < 4294967296 := Nat.and_lt_two_pow (n := 32) a hb
theorem sg0_lt {x : Nat} (h : x < 4294967296) : sg0 x < 4294967296 := xor_lt (xor_lt (rotr_lt _ _ (by omega) h) (rotr_lt _ _ (by omega) h)) (by omega)
theorem sg1_lt {x : Nat} (h : x < 4294967296) : sg1 x < 4294967296 := xor_lt (xor_lt (rotr_lt _ _ (by omega) h) (rotr_lt _ _ (by omega) h)) (by omega)
theorem Sg0_lt {x : Nat} (h : x < 4294967296) : Sg0 x < 4294967296 := xor_lt (xor_lt (rotr_lt _ _ (by omega) h) (rotr_lt _ _ (by omega) h)) (rotr_lt _ _ (by omega) h)
theorem Sg1_lt {x : Nat} (h : x < 4294967296) : Sg1 x < 4294967296 := xor_lt (xor_lt (rotr_lt _ _ (by omega) h) (rotr_lt _ _ (by omega) h)) (rotr_lt _ _ (by omega) h)
theorem chs_lt {e f g : Nat} (hf : f < 4294967296) (hg : g < 4294967296) : chs e f g < 4294967296 := xor_lt (and_lt' hf) (and_lt' hg)
theorem maj_lt {a b c : Nat} (hb : b < 4294967296) (hc : c < 4294967296) : maj a b c < 4294967296 := xor_lt (xor_lt (and_lt' hb) (and_lt' hc)) (and_lt' hc)
theorem be4_lt (b : List UInt8) (k : Nat) : be4 b k < 4294967296 := by
  unfold be4
  have h1 := (b.getD (4 * k) 0).toNat_lt
  have h2 := (b.getD (4 * k + 1) 0).toNat_lt
  have h3 := (b.getD (4 * k + 2) 0).toNat_lt
  have h4 := (b.getD (4 * k + 3) 0).toNat_lt
  omega
theorem w16_len (b : List UInt8) : (w16 b).length = 16 := by simp [w16]
theorem extF_len (f : List Nat → Nat) : ∀ (n : Nat) (w : List Nat), (extF f n w).length = w.length + n
  | 0, _ => rfl
  | n + 1, w => by rw [extF, extF_len f n]; simp; omega
theorem sched_len (b : List UInt8) : (sched b).length = 64 := by rw [sched, extF_len, w16_len]
theorem extF_pre (f : List Nat → Nat) : ∀ (n : Nat) (w : List Nat), (extF f n w).take w.length = w
  | 0, w => by simp [extF]
  | n + 1, w => by
    have h := extF_pre f n (w ++ [f w])
    have h2 := congrArg (List.take w.length) h
    rw [List.take_take] at h2
    rw [extF]
    simpa using h2
theorem extF_at (f : List Nat → Nat) (n : Nat) : ∀ (w : List Nat) (k : Nat), w.length ≤ k → k < w.length + n → (extF f n w)[k]? = some (f ((extF f n w).take k)) := by
  induction n with
  | zero => intro w k h1 h2; omega
  | succ n ih =>
    intro w k h1 h2
    have hl : (w ++ [f w]).length = w.length + 1 := by simp
    rw [extF]
    by_cases hk : k = w.length
    · subst hk
      have h := extF_pre f n (w ++ [f w])
      rw [hl] at h
      generalize extF f n (w ++ [f w]) = E at h
      have h3 : E.take w.length = w := by
        have h2 := congrArg (List.take w.length) h
        rw [List.take_take, Nat.min_eq_left (by omega), List.take_left] at h2
        exact h2
      rw [h3]
      have h4 := congrArg (fun l : List Nat => l[w.length]?) h
      simp only [List.getElem?_take, Nat.lt_succ_self, if_true] at h4
      rw [h4, List.getElem?_append_right (Nat.le_refl _)]
      simp
    · exact ih _ k (by rw [hl]; omega) (by rw [hl]; omega)
theorem sched_hi (b : List UInt8) (k : Nat) (h1 : 16 ≤ k) (h2 : k < 64) : (sched b)[k]? = some (nextW ((sched b).take k)) :=
  extF_at nextW 48 (w16 b) k (by rw [w16_len]; exact h1) (by rw [w16_len]; omega)
theorem sched_lo (b : List UInt8) (k : Nat) (h : k < 16) : (sched b)[k]? = some (be4 b k) := by
  have h1 := extF_pre nextW 48 (w16 b)
  rw [w16_len] at h1
  have h2 := congrArg (fun l : List Nat => l[k]?) h1
  simp only [List.getElem?_take, h, if_true] at h2
  rw [sched, h2]
  simp [w16, h]
theorem nextW_lt (w : List Nat) : nextW w < 4294967296 := Nat.mod_lt _ (by omega)
theorem sched_lt (b : List UInt8) (k x : Nat) (h : (sched b)[k]? = some x) : x < 4294967296 := by
  have hk : k < 64 := by have := (List.getElem?_eq_some_iff.1 h).1; rw [sched_len] at this; exact this
  by_cases h16 : k < 16
  · rw [sched_lo b k h16] at h
    injection h with h
    rw [← h]; exact be4_lt _ _
  · rw [sched_hi b k (by omega) hk] at h
    injection h with h
    rw [← h]; exact nextW_lt _
theorem nextW_take (b : List UInt8) (k : Nat) (h1 : 16 ≤ k) (h2 : k < 64) : nextW ((sched b).take k) = ((sched b).getD (k - 16) 0 + sg0 ((sched b).getD (k - 15) 0) + (sched b).getD (k - 7) 0 + sg1 ((sched b).getD (k - 2) 0)) % 4294967296 := by
  have hl : ((sched b).take k).length = k := by rw [List.length_take, sched_len]; omega
  have hg : ∀ j, j < k → ((sched b).take k).getD j 0 = (sched b).getD j 0 := by
    intro j hj
    simp [hj]
  unfold nextW
  rw [hl, hg _ (by omega), hg _ (by omega), hg _ (by omega), hg _ (by omega)]
def S8.ok (x : S8) : Prop := x.a < 4294967296 ∧ x.b < 4294967296 ∧ x.c < 4294967296 ∧ x.d < 4294967296 ∧ x.e < 4294967296 ∧ x.f < 4294967296 ∧ x.g < 4294967296 ∧ x.h < 4294967296
theorem rnd_ok {x : S8} (h : x.ok) (p : Nat × Nat) : (rnd x p).ok := ⟨Nat.mod_lt _ (by omega), h.1, h.2.1, h.2.2.1, Nat.mod_lt _ (by omega), h.2.2.2.2.1, h.2.2.2.2.2.1, h.2.2.2.2.2.2.1⟩
theorem addS_ok (x y : S8) : (addS x y).ok := by
  unfold addS S8.ok
  refine ⟨?_, ?_, ?_, ?_, ?_, ?_, ?_, ?_⟩ <;> exact Nat.mod_lt _ (by omega)
theorem fold_ok : ∀ (l : List (Nat × Nat)) (x : S8), x.ok → (l.foldl rnd x).ok
  | [], _, h => h
  | p :: l, _, h => fold_ok l _ (rnd_ok h p)
theorem rnds_ok {x : S8} (h : x.ok) (W : List Nat) (k : Nat) : (rnds x W k).ok := fold_ok _ _ h
theorem mixS_ok (x : S8) (b : List UInt8) : (mixS x b).ok := addS_ok _ _
theorem blks_ok : ∀ (n : Nat) (h : S8) (l : List UInt8), h.ok → (blks n h l).ok
  | 0, _, _, h => h
  | n + 1, _, _, _ => blks_ok n _ _ (mixS_ok _ _)
theorem H0_ok : H0.ok := by unfold S8.ok H0; decide
theorem keys_len : KEYS.length = 64 := rfl
theorem rnds_zero (x : S8) (W : List Nat) : rnds x W 0 = x := rfl
theorem rnds_succ (x : S8) (W : List Nat) (k : Nat) (hW : W.length = 64) (hk : k < 64) : rnds x W (k + 1) = rnd (rnds x W k) (KEYS.getD k 0, W.getD k 0) := by
  have hz : (KEYS.zip W)[k]? = some (KEYS.getD k 0, W.getD k 0) := by
    have h1 : KEYS[k]? = some (KEYS.getD k 0) := by rw [List.getD_eq_getElem?_getD, List.getElem?_eq_getElem (by rw [keys_len]; exact hk)]; rfl
    have h2 : W[k]? = some (W.getD k 0) := by rw [List.getD_eq_getElem?_getD, List.getElem?_eq_getElem (by rw [hW]; exact hk)]; rfl
    rw [List.getElem?_zip_eq_some]
    exact ⟨h1, h2⟩
  unfold rnds
  rw [List.take_add_one, hz, List.foldl_append]
  rfl
theorem padL_len (l : List UInt8) : (padL l).length % 64 = 0 := by
  unfold padL
  simp only [List.length_append, List.length_cons, List.length_replicate, be8, List.length_map, List.length_range]
  omega
theorem padL_size (l : List UInt8) : (padL l).length ≤ l.length + 72 := by
  unfold padL
  simp only [List.length_append, List.length_cons, List.length_replicate, be8, List.length_map, List.length_range]
  omega
theorem sha_len (l : List UInt8) : (sha l).length = 32 := rfl
/-! ### operations on words of 32 and 64 bits -/
theorem b32_nat (a : Nat) (h : a < 4294967296) : (BitVec.ofInt 32 (a : Int)).toNat = a := by
  rw [BitVec.ofInt_natCast, BitVec.toNat_ofNat]; exact Nat.mod_eq_of_lt h
theorem wrap32 (a : Nat) (h : a < 4294967296) : IntKind.u32.wrap (a : Int) = (a : Int) := by
  show (a : Int) % 4294967296 = _
  omega
theorem wrap32_add (a b : Nat) : IntKind.u32.wrap ((a : Int) + (b : Int)) = (((a + b) % 4294967296 : Nat) : Int) := by
  show ((a : Int) + (b : Int)) % 4294967296 = _
  omega
theorem or32 (a b : Nat) (ha : a < 4294967296) (hb : b < 4294967296) : bits .or .u32 (a : Int) (b : Int) = ((a ||| b : Nat) : Int) := by
  show IntKind.u32.wrap ((BitVec.ofInt 32 (a : Int) ||| BitVec.ofInt 32 (b : Int)).toNat : Int) = _
  rw [BitVec.toNat_or, b32_nat a ha, b32_nat b hb]
  exact wrap32 _ (Nat.or_lt_two_pow (n := 32) ha hb)
theorem xor32 (a b : Nat) (ha : a < 4294967296) (hb : b < 4294967296) : bits .xor .u32 (a : Int) (b : Int) = ((a ^^^ b : Nat) : Int) := by
  show IntKind.u32.wrap ((BitVec.ofInt 32 (a : Int) ^^^ BitVec.ofInt 32 (b : Int)).toNat : Int) = _
  rw [BitVec.toNat_xor, b32_nat a ha, b32_nat b hb]
  exact wrap32 _ (xor_lt ha hb)
theorem and32 (a b : Nat) (ha : a < 4294967296) (hb : b < 4294967296) : bits .and .u32 (a : Int) (b : Int) = ((a &&& b : Nat) : Int) := by
  show IntKind.u32.wrap ((BitVec.ofInt 32 (a : Int) &&& BitVec.ofInt 32 (b : Int)).toNat : Int) = _
  rw [BitVec.toNat_and, b32_nat a ha, b32_nat b hb]
  exact wrap32 _ (and_lt' hb)
theorem b64_nat (a : Nat) (h : a < 18446744073709551616) : (BitVec.ofInt 64 (a : Int)).toNat = a := by
  rw [BitVec.ofInt_natCast, BitVec.toNat_ofNat]; exact Nat.mod_eq_of_lt h
theorem wrapu64 (a : Nat) (h : a < 18446744073709551616) : IntKind.u64.wrap (a : Int) = (a : Int) := by
  show (a : Int) % 18446744073709551616 = _
  omega
theorem xor64 (a b : Nat) (ha : a < 4294967296) (hb : b < 4294967296) : bits .xor .u64 (a : Int) (b : Int) = ((a ^^^ b : Nat) : Int) := by
  show IntKind.u64.wrap ((BitVec.ofInt 64 (a : Int) ^^^ BitVec.ofInt 64 (b : Int)).toNat : Int) = _
  rw [BitVec.toNat_xor, b64_nat a (by omega), b64_nat b (by omega)]
  have := xor_lt ha hb
  exact wrapu64 _ (by omega)
theorem and64 (a b : Nat) (ha : a < 4294967296) (hb : b < 4294967296) : bits .and .u64 (a : Int) (b : Int) = ((a &&& b : Nat) : Int) := by
  show IntKind.u64.wrap ((BitVec.ofInt 64 (a : Int) &&& BitVec.ofInt 64 (b : Int)).toNat : Int) = _
  rw [BitVec.toNat_and, b64_nat a (by omega), b64_nat b (by omega)]
  have := and_lt' (a := a) hb
  exact wrapu64 _ (by omega)
theorem rotr_or (n x : Nat) (hn : n ≤ 32) (hx : x < 4294967296) : (x * 2 ^ (32 - n) % 4294967296) ||| (x / 2 ^ n) = rotr n x := by
  have e : 2 ^ n * 2 ^ (32 - n) = 4294967296 := by rw [← Nat.pow_add, show n + (32 - n) = 32 by omega]
  have h1 : x / 2 ^ n < 2 ^ (32 - n) := (Nat.div_lt_iff_lt_mul (Nat.two_pow_pos n)).2 (by rw [Nat.mul_comm, e]; exact hx)
  rw [← e, Nat.mul_mod_mul_right]
  have h2 := Nat.shiftLeft_add_eq_or_of_lt (b := x / 2 ^ n) (i := 32 - n) h1 (x % 2 ^ n)
  rw [Nat.shiftLeft_eq] at h2
  rw [← h2]
  unfold rotr
  omega
end Go.Proofs.YtdpkodhfelnedaaDoor.Cod

/- Bytes back to numbers; the texts and bytes that are canonical. The conditions stand in each theorem. -/
import Derived.Test.YtclmdidgioggdaaNatD
import Derived.Lib.Strings
import Derived.Test.YtclmdidgioggdaaQx34
namespace Go.Proofs.Ytclmdidgioggdaa.Num
open Go.RowKit Go.Proofs.YtclmdidgioggdaaW.PrintWords Go.Proofs.Ytclmdidgioggdaa.Q
theorem toList_len (s : ByteArray) : s.toList.length = s.size := by rw [Lib.toList_data]; simp
/-- the bytes' values -/
def bys (s : ByteArray) : List Int := s.data.toList.map fun c => (c.toNat : Int)
theorem bys_len (s : ByteArray) : (bys s).length = s.size := by simp [bys]
theorem Dg_bys (s : ByteArray) : Dg 256 (bys s) := by
  intro x hx
  simp only [bys, List.mem_map] at hx
  obtain ⟨c, _, rfl⟩ := hx
  have := c.toNat_lt
  omega
theorem Dg_rev {b : Int} {l : List Int} (h : Dg b l) : Dg b l.reverse := fun x hx => h x (List.mem_reverse.1 hx)
theorem bys_back (s : ByteArray) : strOfNums (bys s) = s := by
  apply ByteArray.ext
  apply Array.ext'
  simp only [strOfNums, bys, List.map_map]
  refine (List.map_congr_left (g := id) (fun c _ => ?_)).trans (List.map_id _)
  simp
theorem bys_str (l : List Int) (h : Dg 256 l) : bys (strOfNums l) = l := by
  simp only [bys, strOfNums, List.map_map]
  refine (List.map_congr_left (g := id) (fun x hx => ?_)).trans (List.map_id _)
  have := h x hx
  simp only [Function.comp_apply, id_eq, UInt8.toNat_ofNat']
  omega
theorem bys_bt (s : ByteArray) (i : Nat) (h : i < s.size) : bt s (i : Int) = (bys s)[i]'(by rw [bys_len]; exact h) := by
  rw [bt_data s i h]
  simp [bys]
def bval (s : ByteArray) : Nat := (Vl 256 (bys s).reverse).toNat
theorem E_from_l (s : ByteArray) (hs : s.size ≤ 160) : ∀ (d i : Nat) (out : List Int), s.size - i = d → i ≤ s.size → out.length = (s.size + 3) / 4 → DN out →
      VN out = Vl 256 ((bys s).take i).reverse * Pw 256 (s.size - i) →
      Ev (fun k => nat_From.l0 k s out (s.size : Int) (i : Int)) (N (bval s), true) := by
  obtain ⟨n, hn⟩ : ∃ n, n = s.size := ⟨_, rfl⟩
  rw [← hn]
  have hlen : (bys s).length = n := by rw [bys_len, hn]
  intro d
  induction d with
  | zero =>
    intro i out hd hi hl hdn hv
    obtain rfl : i = n := by omega
    rw [List.take_of_length_le (by omega), Nat.sub_self, show Pw 256 0 = 1 from rfl, Int.mul_one] at hv
    have h := E_trim out (by omega) hdn
    rw [hv] at h
    refine Ev.step (f := fun k => (nat_trim.f k out).bind fun t => some (t, true)) (fun k => by rw [nat_From.l0, if_neg (by omega)]) ?_
    exact Ev.bind h (Ev.now _)
  | succ d ih =>
    intro i out hd hi hl hdn hv
    have hib : i < (bys s).length := by omega
    obtain ⟨x, hx⟩ : ∃ x, x = (bys s)[i] := ⟨_, rfl⟩
    have hx0 := (Dg_bys s).get i hib
    rw [← hx] at hx0
    obtain ⟨q, r, hr, hp⟩ : ∃ q r, r < 4 ∧ n - 1 - i = 4 * q + r := ⟨(n - 1 - i) / 4, (n - 1 - i) % 4, by omega, by omega⟩
    have hq : q < out.length := by omega
    obtain ⟨V, hV⟩ : ∃ V, V = Vl 256 ((bys s).take i).reverse := ⟨_, rfl⟩
    obtain ⟨o, ho⟩ : ∃ o, o = out[q] := ⟨_, rfl⟩
    have ho0 := hdn.get q hq
    rw [← ho] at ho0
    have hP4 : Pw 256 (4 * q) = PN q := by
      rw [show (256 : Int) = ((256 : Nat) : Int) from rfl, show PN q = Pw ((4294967296 : Nat) : Int) q from rfl, Pw_nat, Pw_nat, Nat.pow_mul]
    have hod : o = V * Pw 256 (r + 1) % 4294967296 := by
      have e := Vl_digit 4294967296 (by omega) out q hdn
      rw [List.getElem?_eq_getElem hq, Option.getD_some, ← ho, show Vl 4294967296 out = VN out from rfl, hv, ← hV, show n - i = 4 * q + (r + 1) by omega, Pw_add, hP4,
        show V * (PN q * Pw 256 (r + 1)) = PN q * (V * Pw 256 (r + 1)) by grind, show Pw 4294967296 q = PN q from rfl,
        Int.mul_ediv_cancel_left _ (by have := Pw_pos (b := 4294967296) (by omega) q; show PN q ≠ 0; simp only [PN] at *; omega)] at e
      exact e
    have hor : Go.bits .or .u32 o (x * ((256 ^ r : Nat) : Int)) = o + x * ((256 ^ r : Nat) : Int) ∧ o + x * ((256 ^ r : Nat) : Int) < 4294967296 := by
      have j := fun i => bits_join .u32 32 (by decide) (fun n h0 h1 => by show n % 4294967296 = n; omega) i o (x * ((256 ^ r : Nat) : Int))
      rcases (show r = 0 ∨ r = 1 ∨ r = 2 ∨ r = 3 by omega) with rfl | rfl | rfl | rfl
      · have e : Pw 256 (0 + 1) = 256 := rfl
        rw [e] at hod
        have e2 : ((256 ^ 0 : Nat) : Int) = 1 := rfl
        rw [e2] at j ⊢
        exact ⟨j 8 (by omega) (by omega) (by omega) (by omega) (by omega) (by omega), by omega⟩
      · have e : Pw 256 (1 + 1) = 65536 := rfl
        rw [e] at hod
        have e2 : ((256 ^ 1 : Nat) : Int) = 256 := rfl
        rw [e2] at j ⊢
        exact ⟨j 16 (by omega) (by omega) (by omega) (by omega) (by omega) (by omega), by omega⟩
      · have e : Pw 256 (2 + 1) = 16777216 := rfl
        rw [e] at hod
        have e2 : ((256 ^ 2 : Nat) : Int) = 65536 := rfl
        rw [e2] at j ⊢
        exact ⟨j 24 (by omega) (by omega) (by omega) (by omega) (by omega) (by omega), by omega⟩
      · have e : Pw 256 (3 + 1) = 4294967296 := rfl
        rw [e] at hod
        have e2 : ((256 ^ 3 : Nat) : Int) = 16777216 := rfl
        rw [e2] at j ⊢
        exact ⟨j 32 (by omega) (by omega) (by omega) (by omega) (by omega) (by omega), by omega⟩
    refine Ev.step (f := fun k => nat_From.l0 k s (out.set q (o + x * ((256 ^ r : Nat) : Int))) (n : Int) ((i + 1 : Nat) : Int)) (fun k => ?_) (ih (i + 1) _ (by omega) (by omega) (by rw [List.length_set]; exact hl) (hdn.set q (by have := Int.mul_nonneg hx0.1 (Int.natCast_nonneg (256 ^ r)); omega) hor.2) ?_)
    · conv => lhs; rw [nat_From.l0]
      rw [if_pos (by omega), ← hn, ix_of n i (by omega) (by omega), quo_of _ (by omega), rem_of _ (by omega)]
      rw [show (n - 1 - i) / 4 = q by omega, show (n - 1 - i) % 4 = r by omega]
      rw [if_pos (by omega), if_pos (by omega), if_pos (by omega), if_pos (by omega), if_pos (by omega)]
      rw [bys_bt s i (by omega), ← hx, rd_get out q hq, ← ho, show x % 4294967296 = x by omega, shl_of x hx0.1 hx0.2 r hr, hor.1, Int.toNat_natCast]
      rw [show wrap64 ((i : Int) + 1) = ((i + 1 : Nat) : Int) from by rw [w64 (by omega) (by omega)]; omega]
    · show Vl 4294967296 (out.set q _) = _
      rw [Vl_set 4294967296 out q hq, ← ho, show Vl 4294967296 out = VN out from rfl, hv, ← hV, List.take_succ_eq_append_getElem hib, ← hx, List.reverse_append]
      have e : Vl 256 ([x].reverse ++ ((bys s).take i).reverse) = x + 256 * V := by rw [hV]; rfl
      rw [e, show n - i = 4 * q + (r + 1) by omega, show n - (i + 1) = 4 * q + r by omega, Pw_add 256 (4 * q) (r + 1), Pw_add 256 (4 * q) r, hP4, show Pw 4294967296 q = PN q from rfl, show Pw 256 (r + 1) = 256 * Pw 256 r from rfl,
        show (256 : Int) = ((256 : Nat) : Int) from rfl, Pw_nat 256 r]
      generalize PN q = p
      generalize ((256 ^ r : Nat) : Int) = u
      grind
theorem E_from_good (s : ByteArray) (hs : s.size ≤ 160) (h0 : s.size ≠ 0 → bt s 0 ≠ 0) : Ev (fun k => nat_From.f k s) (N (bval s), true) := by
  have main : Ev (fun k => nat_From.j0 k s false) (N (bval s), true) := by
    have e : wrap64 (Int.tdiv (wrap64 ((s.size : Int) + 3)) 4) = (((s.size + 3) / 4 : Nat) : Int) := by
      rw [w64 (x := (s.size : Int) + 3) (by omega) (by omega), show (s.size : Int) + 3 = ((s.size + 3 : Nat) : Int) by omega]
      exact quo_of _ (by omega)
    refine Ev.step (f := fun k => nat_From.l0 k s (List.replicate ((s.size + 3) / 4) 0) (s.size : Int) 0) (fun k => ?_) ?_
    · rw [nat_From.j0, if_neg Bool.false_ne_true, e, if_pos (by omega), if_pos (by omega), Int.toNat_natCast]
    · refine E_from_l s hs _ 0 _ rfl (by omega) (by rw [List.length_replicate]) (Dg.zeros (by omega) _) ?_
      show Vl 4294967296 _ = _
      rw [Vl_zeros, List.take_zero, show Vl 256 ([] : List Int).reverse = 0 from rfl, Int.zero_mul]
  unfold nat_From.f
  refine Ev.congr (fun k => if_neg (by omega)) ?_
  by_cases hz : s.toList = ([] : List UInt8)
  · exact Ev.congr (fun k => if_pos hz) main
  · refine Ev.congr (fun k => if_neg hz) ?_
    have hsz : s.size ≠ 0 := by
      intro e
      exact hz (List.eq_nil_of_length_eq_zero (by rw [toList_len]; exact e))
    refine Ev.congr (fun k => if_pos (by omega)) ?_
    have e : ((bt s 0) == 0) = false := by rw [beq_eq_false_iff_ne]; exact h0 hsz
    rw [e]
    exact main
theorem E_from_bad (s : ByteArray) (h : 160 < s.size ∨ (s.size ≠ 0 ∧ bt s 0 = 0)) : Ev (fun k => nat_From.f k s) ([], false) := by
  have main : Ev (fun k => nat_From.j0 k s true) ([], false) :=
    Ev.step (f := fun _ => some ([], false)) (fun k => by rw [nat_From.j0, if_pos rfl]) (Ev.now _)
  unfold nat_From.f
  by_cases h1 : (s.size : Int) > 160
  · exact Ev.congr (fun k => if_pos h1) main
  · refine Ev.congr (fun k => if_neg h1) ?_
    have h2 : s.size ≠ 0 ∧ bt s 0 = 0 := by omega
    have hz : s.toList ≠ ([] : List UInt8) := by
      intro e
      have : s.toList.length = s.size := toList_len s
      rw [e] at this
      exact h2.1 this.symm
    refine Ev.congr (fun k => if_neg hz) ?_
    refine Ev.congr (fun k => if_pos (by omega)) ?_
    rw [h2.2, beq_self_eq_true]
    exact main
theorem Cn_last {b : Int} : ∀ {l : List Int} {z : Int}, Cn b (l ++ [z]) → z ≠ 0
  | [], _, h => h.2.2 rfl
  | _ :: l, _, h => Cn_last (l := l) h.2.1
theorem bval_byt (a : Nat) : bval (byt a) = a := by
  unfold bval byt
  rw [bys_str _ (Dg_rev (Dg.Ds 256 (by omega) a)), List.reverse_reverse, show Vl 256 (Ds 256 a) = (a : Int) from Vl_Ds 256 (by omega) a]
  rfl
theorem byt_size (a : Nat) : (byt a).size = (Ds 256 a).length := by unfold byt; rw [strOfNums_size, List.length_reverse]
theorem snoc_of {α : Type} (l : List α) (h : l ≠ []) : ∃ m z, l = m ++ [z] := ⟨l.dropLast, l.getLast h, (List.dropLast_concat_getLast h).symm⟩
theorem byt_first (a : Nat) (h : (byt a).size ≠ 0) : bt (byt a) 0 ≠ 0 := by
  have hl : (Ds 256 a) ≠ [] := by
    intro e
    rw [byt_size, e] at h
    exact h rfl
  obtain ⟨m, z, e⟩ := snoc_of _ hl
  have hz := Cn_last (e ▸ Cn_Ds 256 (by omega) a)
  have e2 := bys_bt (byt a) 0 (by omega)
  rw [show ((0 : Nat) : Int) = 0 from rfl] at e2
  rw [e2]
  have e3 : bys (byt a) = z :: m.reverse := by
    unfold byt
    rw [bys_str _ (Dg_rev (Dg.Ds 256 (by omega) a)), e, List.reverse_append]
    rfl
  simp only [e3, List.getElem_cons_zero]
  exact hz
theorem E_from_byt (a : Nat) (h : (Ds 256 a).length ≤ 160) : Ev (fun k => nat_From.f k (byt a)) (N a, true) := by
  have := E_from_good (byt a) (by rw [byt_size]; exact h) (byt_first a)
  rw [bval_byt] at this
  exact this
theorem byt_bval (s : ByteArray) (h0 : s.size ≠ 0 → bt s 0 ≠ 0) : byt (bval s) = s := by
  have hd := Dg_rev (Dg_bys s)
  have hc : Cn 256 (bys s).reverse := by
    by_cases hz : bys s = []
    · rw [hz]; trivial
    · obtain ⟨x, l, e⟩ := List.exists_cons_of_ne_nil hz
      have hsz : s.size ≠ 0 := by rw [← bys_len, e]; simp
      have e2 := bys_bt s 0 (by omega)
      rw [show ((0 : Nat) : Int) = 0 from rfl] at e2
      simp only [e, List.getElem_cons_zero] at e2
      rw [e, List.reverse_cons] at hd ⊢
      exact Cn_snoc hd (e2 ▸ h0 hsz)
  have hv := (Vl_bd hd).1
  have e := Cn_eq_Ds 256 (by omega) hc (bval s) (by unfold bval; exact (Int.toNat_of_nonneg hv).symm)
  unfold byt
  rw [← e, List.reverse_reverse, bys_back]
/- the texts -/
theorem dec_data (a : Nat) : (dec a).data.toList = (digs a).reverse.map fun n => UInt8.ofNat n.toNat := by unfold dec; rw [strOfNums_data]
theorem digs_rng (a : Nat) : ∀ x ∈ digs a, 48 ≤ x ∧ x ≤ 57 := by
  intro x hx
  unfold digs at hx
  split at hx
  · simp only [List.mem_singleton] at hx; omega
  · simp only [List.mem_map] at hx
    obtain ⟨y, hy, rfl⟩ := hx
    have := DT_T a y hy
    omega
theorem dl_dec (a : Nat) : dl (dec a).data.toList = (digs a).map fun x => x - 48 := by
  unfold dl
  rw [dec_data, List.map_map, ← List.map_reverse, List.reverse_reverse]
  refine List.map_congr_left (fun x hx => ?_)
  have := digs_rng a x hx
  simp only [Function.comp_apply, UInt8.toNat_ofNat']
  omega
theorem isD_dec (a : Nat) : ∀ c ∈ (dec a).data.toList, isD c := by
  intro c hc
  rw [dec_data, List.mem_map] at hc
  obtain ⟨x, hx, rfl⟩ := hc
  have := digs_rng a x (List.mem_reverse.1 hx)
  unfold isD
  simp only [UInt8.toNat_ofNat']
  omega
theorem dval_dec (a : Nat) : dval 0 (dec a).data.toList = a := by
  have h := Vl_dl (dec a).data.toList 0 (isD_dec a)
  rw [dl_dec] at h
  have e : Vl 10 ((digs a).map fun x => x - 48) = a := by
    unfold digs
    split
    · rename_i h0; subst h0; rfl
    · rw [List.map_map]
      have : (T a).map ((fun x => x - 48) ∘ fun x => 48 + x) = T a := by
        refine (List.map_congr_left (g := id) (fun x _ => ?_)).trans (List.map_id _)
        simp only [Function.comp_apply, id_eq]
        omega
      rw [this]
      exact VT_T a
  rw [e] at h
  have e0 : ((0 : Nat) : Int) = 0 := rfl
  rw [e0, Int.mul_zero, Int.add_zero] at h
  omega
theorem dec_size (a : Nat) : (dec a).size = (digs a).length := by unfold dec; rw [strOfNums_size, List.length_reverse]
theorem good_dec (a : Nat) (h : (digs a).length ≤ 400) : good (dec a) := by
  refine ⟨?_, by rw [dec_size]; exact h, ?_, isD_dec a⟩
  · rw [dec_size]
    unfold digs
    split
    · simp
    · rename_i h0
      rw [List.length_map]
      exact fun e => h0 ((T_zero_iff a).1 e)
  · rintro ⟨hz, hs⟩
    rw [dec_size] at hs
    have h0 : a ≠ 0 := by
      intro e
      subst e
      exact absurd hs (by show ¬ (1 < 1); omega)
    have hl : T a ≠ [] := fun e => h0 ((T_zero_iff a).1 (by rw [e]; rfl))
    obtain ⟨m, z, e⟩ := snoc_of _ hl
    have hcn := Cn_Ds 10 (by omega) a
    rw [show Ds 10 a = m ++ [z] from e] at hcn
    have hz2 := Cn_last hcn
    have hz3 := DT_T a z (by rw [e]; simp)
    have e2 := bt_data (dec a) 0 (by rw [dec_size]; omega)
    rw [show ((0 : Nat) : Int) = 0 from rfl, hz] at e2
    have e3 : (dec a).data.toList = UInt8.ofNat (48 + z).toNat :: (m.map fun x => 48 + x).reverse.map fun n => UInt8.ofNat n.toNat := by
      rw [dec_data]
      unfold digs
      rw [if_neg h0, e, List.map_append, List.reverse_append]
      rfl
    simp only [e3, List.getElem_cons_zero, UInt8.toNat_ofNat'] at e2
    omega
theorem dec_dval (s : ByteArray) (h : good s) : dec (dval 0 s.data.toList) = s := by
  obtain ⟨h1, h2, h3, h4⟩ := h
  have hv := Vl_dl s.data.toList 0 h4
  have e0 : ((0 : Nat) : Int) = 0 := rfl
  rw [e0, Int.mul_zero, Int.add_zero] at hv
  have hd := DT_dl _ h4
  have hlen : s.data.toList.length = s.size := by simp
  -- the letters of the digits
  have back : strOfNums ((dl s.data.toList).map (fun x => 48 + x)).reverse = s := by
    unfold dl
    rw [List.map_reverse, List.reverse_reverse, List.map_map]
    refine Eq.trans ?_ (bys_back s)
    congr 1
    unfold bys
    refine List.map_congr_left (fun c _ => ?_)
    simp only [Function.comp_apply]
    omega
  obtain ⟨c, cs, e⟩ := List.exists_cons_of_ne_nil (show s.data.toList ≠ [] from fun e => h1 (by rw [← hlen, e]; rfl))
  have hc := h4 c (by rw [e]; simp)
  have ebt := bt_data s 0 (by omega)
  rw [show ((0 : Nat) : Int) = 0 from rfl] at ebt
  simp only [e, List.getElem_cons_zero] at ebt
  unfold isD at hc
  have hdl : dl s.data.toList = dl cs ++ [(c.toNat : Int) - 48] := by rw [e, dl_snoc]
  by_cases hz : c.toNat = 48
  · have h1s : ¬ 1 < s.size := fun q => h3 ⟨by rw [ebt, hz]; rfl, q⟩
    have hcs : cs = [] := by
      rw [e, List.length_cons] at hlen
      exact List.eq_nil_of_length_eq_zero (by omega)
    have hd0 : dl s.data.toList = [0] := by rw [hdl, hcs, hz]; rfl
    rw [hd0] at hv back
    have : dval 0 s.data.toList = 0 := by
      have e9 : Vl 10 [0] = 0 := rfl
      rw [e9] at hv
      omega
    rw [this]
    exact back
  · have hcn : Cn 10 (dl s.data.toList) := by
      rw [hdl] at hd ⊢
      exact Cn_snoc hd (by omega)
    have eT := Cn_eq_Ds 10 (by omega) hcn _ hv
    have hne : dval 0 s.data.toList ≠ 0 := by
      intro q
      rw [q, Ds_zero, hdl] at eT
      simp at eT
    unfold dec digs
    rw [if_neg hne, show T (dval 0 s.data.toList) = dl s.data.toList from eT.symm]
    exact back
end Go.Proofs.Ytclmdidgioggdaa.Num

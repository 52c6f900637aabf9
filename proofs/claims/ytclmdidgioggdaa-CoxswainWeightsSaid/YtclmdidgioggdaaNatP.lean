/- Parsing decimal digits, of nat and of the reference; the number of a text's digits. The conditions stand in each theorem. -/
import Derived.Test.YtclmdidgioggdaaNatT
import Derived.Test.YtclmdidgioggdaaQx16
import Derived.Test.YtclmdidgioggdaaQx17
import Derived.Test.YtclmdidgioggdaaQx19
import Derived.Test.YtclmdidgioggdaaQx20
import Derived.KernelRfl
namespace Go.Proofs.Ytclmdidgioggdaa.Num
open Go.RowKit Go.Proofs.YtclmdidgioggdaaW.PrintWords Go.Proofs.Ytclmdidgioggdaa.Q
def isD (c : UInt8) : Prop := 48 ≤ c.toNat ∧ c.toNat ≤ 57
instance (c : UInt8) : Decidable (isD c) := by unfold isD; exact inferInstance
/-- the number whose digits come, behind others -/
def dval : Nat → List UInt8 → Nat
  | v, [] => v
  | v, c :: cs => dval (10 * v + (c.toNat - 48)) cs
theorem dval_lt : ∀ (cs : List UInt8) (v m : Nat), (∀ c ∈ cs, isD c) → v < 10 ^ m → dval v cs < 10 ^ (m + cs.length)
  | [], v, m, _, h => h
  | c :: cs, v, m, hd, h => by
    have hc := hd c (by simp)
    have := dval_lt cs (10 * v + (c.toNat - 48)) (m + 1) (fun x hx => hd x (by simp [hx])) (by rw [Nat.pow_succ]; have := hc.2; omega)
    rw [List.length_cons, show m + (cs.length + 1) = m + 1 + cs.length by omega]
    exact this
theorem E_parse_yes : ∀ (cs : List UInt8) (v m : Nat), (∀ c ∈ cs, isD c) → v < 10 ^ m → m + cs.length ≤ 1000 → Ev (fun k => nat_Parse.l0 k cs (N v)) (N (dval v cs), true)
  | [], v, m, _, _, _ => Ev.now _
  | c :: cs, v, m, hd, h, hl => by
    have hc := hd c (by simp)
    have hv := T_len_N h
    have h10 := T_len_N (show 10 < 10 ^ 2 by omega)
    have hm1 : 10 * v < 10 ^ (m + 1) := by rw [Nat.pow_succ]; omega
    have hv1 := T_len_N hm1
    have hcd : c.toNat - 48 < 10 ^ 2 := by have := hc.2; omega
    have hc1 := T_len_N hcd
    simp at hl
    have em := E_mul v 10 (by omega) (by omega)
    rw [Nat.mul_comm] at em
    have ea := E_add (10 * v) (c.toNat - 48) (by omega) (by omega)
    have eo := E_of (c.toNat - 48) (by omega)
    rw [show ((c.toNat - 48 : Nat) : Int) = (c.toNat : Int) - 48 by have := hc.1; omega] at eo
    have hn : 10 * v + (c.toNat - 48) < 10 ^ (m + 1) := by rw [Nat.pow_succ]; have := hc.2; omega
    unfold nat_Parse.l0
    refine Ev.congr (fun k => if_neg (by have := hc.1; have := hc.2; omega)) ?_
    refine Ev.bind (E_of 10 (by omega)) (Ev.bind em (Ev.bind eo (Ev.bind ea ?_)))
    exact E_parse_yes cs _ (m + 1) (fun x hx => hd x (by simp [hx])) hn (by omega)
theorem E_parse_no : ∀ (cs : List UInt8) (v m : Nat), ¬ (∀ c ∈ cs, isD c) → v < 10 ^ m → m + cs.length ≤ 1000 → Ev (fun k => nat_Parse.l0 k cs (N v)) ([], false)
  | [], v, m, hd, _, _ => absurd (by simp) hd
  | c :: cs, v, m, hd, h, hl => by
    unfold nat_Parse.l0
    by_cases hc : isD c
    · have hv := T_len_N h
      have h10 := T_len_N (show 10 < 10 ^ 2 by omega)
      have hm1 : 10 * v < 10 ^ (m + 1) := by rw [Nat.pow_succ]; omega
      have hv1 := T_len_N hm1
      have hcd : c.toNat - 48 < 10 ^ 2 := by have := hc.2; omega
      have hc1 := T_len_N hcd
      simp at hl
      have em := E_mul v 10 (by omega) (by omega)
      rw [Nat.mul_comm] at em
      have ea := E_add (10 * v) (c.toNat - 48) (by omega) (by omega)
      have eo := E_of (c.toNat - 48) (by omega)
      rw [show ((c.toNat - 48 : Nat) : Int) = (c.toNat : Int) - 48 by have := hc.1; omega] at eo
      have hn : 10 * v + (c.toNat - 48) < 10 ^ (m + 1) := by rw [Nat.pow_succ]; have := hc.2; omega
      refine Ev.congr (fun k => if_neg (by have := hc.1; have := hc.2; omega)) ?_
      refine Ev.bind (E_of 10 (by omega)) (Ev.bind em (Ev.bind eo (Ev.bind ea ?_)))
      refine E_parse_no cs _ (m + 1) (fun hh => hd ?_) hn (by omega)
      intro x hx
      rcases List.mem_cons.1 hx with rfl | hx
      · exact hc
      · exact hh x hx
    · refine Ev.congr (fun k => if_pos ?_) (Ev.now _)
      unfold isD at hc
      omega
/-- which texts are numbers -/
def good (s : ByteArray) : Prop := s.size ≠ 0 ∧ s.size ≤ 400 ∧ ¬ (bt s 0 = 48 ∧ 1 < s.size) ∧ ∀ c ∈ s.data.toList, isD c
theorem E_parse_good (s : ByteArray) (h : good s) : Ev (fun k => nat_Parse.f k s) (N (dval 0 s.data.toList), true) := by
  unfold nat_Parse.f
  obtain ⟨h1, h2, h3, h4⟩ := h
  refine Ev.congr (fun k => if_neg (by omega)) ?_
  have := E_parse_yes s.data.toList 0 0 h4 (by omega) (by simp; omega)
  rw [show N 0 = [] from Ds_zero _] at this
  exact this
theorem E_parse_bad (s : ByteArray) (h : ¬ good s) : Ev (fun k => nat_Parse.f k s) ([], false) := by
  unfold nat_Parse.f
  by_cases hc : s.size = 0 ∨ 400 < s.size ∨ (bt s 0 = 48 ∧ 1 < s.size)
  · exact Ev.congr (fun k => if_pos hc) (Ev.now _)
  · refine Ev.congr (fun k => if_neg hc) ?_
    have h4 : ¬ ∀ c ∈ s.data.toList, isD c := fun h4 => h ⟨by omega, by omega, by omega, h4⟩
    have := E_parse_no s.data.toList 0 0 h4 (by omega) (by simp; omega)
    rw [show N 0 = [] from Ds_zero _] at this
    exact this
/-- the digits of letters, the lowest first -/
def dl (cs : List UInt8) : List Int := (cs.map fun c => (c.toNat : Int) - 48).reverse
theorem dl_snoc (c : UInt8) (cs : List UInt8) : dl (c :: cs) = dl cs ++ [(c.toNat : Int) - 48] := by simp [dl]
theorem Vl_dl (cs : List UInt8) : ∀ (v : Nat), (∀ c ∈ cs, isD c) → Vl 10 (dl cs) + Pw 10 cs.length * v = dval v cs := by
  induction cs with
  | nil =>
    intro v _
    have e0 : Vl 10 (dl []) = 0 := rfl
    have e1 : Pw 10 ([] : List UInt8).length = 1 := rfl
    have e2 : dval v [] = v := rfl
    rw [e0, e1, e2]
    omega
  | cons c cs ih =>
    intro v hd
    have hc := (hd c (by simp)).1
    have e : ((10 * v + (c.toNat - 48) : Nat) : Int) = 10 * v + ((c.toNat : Int) - 48) := by omega
    have ih' := ih (10 * v + (c.toNat - 48)) (fun x hx => hd x (by simp [hx]))
    have e2 : dval v (c :: cs) = dval (10 * v + (c.toNat - 48)) cs := rfl
    have hl : (dl cs).length = cs.length := by simp [dl]
    have e3 : Vl 10 [(c.toNat : Int) - 48] = (c.toNat : Int) - 48 := by simp [Vl]
    have e4 : Pw 10 (c :: cs).length = 10 * Pw 10 cs.length := rfl
    rw [e2, dl_snoc, Vl_append, hl, e3, e4]
    rw [e] at ih'
    rw [← ih']
    clear ih ih' e2 e3 e hc hd
    generalize (c.toNat : Int) - 48 = x
    generalize Pw 10 cs.length = p
    generalize Vl 10 (dl cs) = q
    grind
theorem DT_dl (cs : List UInt8) (hd : ∀ c ∈ cs, isD c) : DT (dl cs) := by
  intro x hx
  simp [dl] at hx
  obtain ⟨c, hc, rfl⟩ := hx
  have := hd c hc
  unfold isD at this
  omega
theorem bt_rng (s : ByteArray) (i : Int) : 0 ≤ bt s i ∧ bt s i ≤ 255 := by
  unfold bt
  split
  · rename_i h
    have := (s[i.toNat]'h).toNat_lt
    omega
  · omega
theorem bt_data (s : ByteArray) (i : Nat) (h : i < s.size) : bt s (i : Int) = ((s.data.toList[i]'(by simpa using h)).toNat : Int) := by
  unfold bt
  simp [h]
  rfl
theorem E_rparse_l (s : ByteArray) (hs : s.size ≤ 400) : ∀ (i : Nat) (acc : List Int), i ≤ s.size → acc = dl (s.data.toList.drop i) → (∀ c ∈ s.data.toList.drop i, isD c) →
    Ev (fun k => coxswainref03_Parse.l0 k s acc ((i : Int) - 1)) (if ∀ c ∈ s.data.toList, isD c then (T (dval 0 s.data.toList), true) else ([], false)) := by
  intro i
  induction i with
  | zero =>
    intro acc _ hacc hd
    rw [List.drop_zero] at hacc hd
    rw [if_pos hd, hacc]
    have h := E_rtrim (dl s.data.toList) (by simp [dl]; omega) (DT_dl _ hd)
    have hv := Vl_dl s.data.toList 0 hd
    have e : (VT (dl s.data.toList)).toNat = dval 0 s.data.toList := by
      show (Vl 10 _).toNat = _
      simp at hv
      omega
    rw [e] at h
    refine Ev.step (f := fun k => (coxswainref03_trim.f k (dl s.data.toList)).bind fun t => some (t, true)) (fun k => by simp only [coxswainref03_Parse.l0]; rw [if_neg (by omega)]) ?_
    exact Ev.bind h (Ev.now _)
  | succ i ih =>
    intro acc hi hacc hd
    have hi' : i < s.data.toList.length := by simp; omega
    have hdr := List.drop_eq_getElem_cons hi'
    have hb := bt_data s i hi
    generalize hc : s.data.toList[i] = c at *
    have hal : acc.length ≤ 400 := by rw [hacc]; simp [dl]; omega
    by_cases hD : isD c
    · have h1 := hD.1; have h2 := hD.2
      refine Ev.step (f := fun k => coxswainref03_Parse.l0 k s (acc ++ [(c.toNat : Int) - 48]) ((i : Int) - 1)) (fun k => ?_) ?_
      · conv => lhs; simp only [coxswainref03_Parse.l0]
        rw [show ((i + 1 : Nat) : Int) - 1 = (i : Int) by omega, if_pos (by omega), if_pos (by omega), if_pos (by omega), hb, if_neg (by omega), if_neg (by omega), if_pos (by omega)]
        rw [w64 (x := (c.toNat : Int)) (by omega) (by omega), w64 (by omega) (by omega), w64 (by omega) (by omega)]
      · refine ih _ (by omega) (by rw [hdr, dl_snoc, hacc]) ?_
        rw [hdr]
        intro x hx
        rcases List.mem_cons.1 hx with rfl | hx
        · exact hD
        · exact hd x hx
    · have hn : ¬ ∀ c ∈ s.data.toList, isD c := fun h => hD (h c (by rw [← hc]; exact List.getElem_mem hi'))
      rw [if_neg hn]
      refine Ev.step (f := fun _ => some ([], false)) (fun k => ?_) (Ev.now _)
      simp only [coxswainref03_Parse.l0]
      rw [show ((i + 1 : Nat) : Int) - 1 = (i : Int) by omega, if_pos (by omega), if_pos (by omega), if_pos (by omega), hb]
      unfold isD at hD
      by_cases h1 : (c.toNat : Int) < 48
      · rw [if_pos h1]
      · rw [if_neg h1, if_pos (by omega)]
theorem toList_nil_iff (s : ByteArray) : s.toList = ([] : List UInt8) ↔ s.size = 0 := by
  rw [ba_toList]
  constructor
  · intro h
    have : s.data.toList.length = s.size := by simp
    rw [h] at this
    simpa using this.symm
  · intro h
    exact List.length_eq_zero_iff.1 (by simpa using h)
theorem E_rparse (s : ByteArray) : Ev (fun k => coxswainref03_Parse.f k s) (if s.size ≠ 0 ∧ s.size ≤ 400 ∧ ¬ (bt s 0 = 48 ∧ 1 < s.size) ∧ ∀ c ∈ s.data.toList, isD c then (T (dval 0 s.data.toList), true) else ([], false)) := by
  have no : Ev (fun k => coxswainref03_Parse.j0 k s true) ([], false) :=
    Ev.step (f := fun _ => some ([], false)) (fun k => by simp only [coxswainref03_Parse.j0]; rw [if_pos trivial]) (Ev.now _)
  unfold coxswainref03_Parse.f
  by_cases h0 : s.size = 0
  · rw [if_neg (by omega)]
    exact Ev.congr (fun k => if_pos ((toList_nil_iff s).2 h0)) no
  · refine Ev.congr (fun k => if_neg (fun h => h0 ((toList_nil_iff s).1 h))) ?_
    by_cases h1 : 400 < s.size
    · rw [if_neg (by omega)]
      exact Ev.congr (fun k => if_pos (by omega)) no
    · refine Ev.congr (fun k => if_neg (by omega)) ?_
      refine Ev.congr (fun k => if_pos (by omega)) ?_
      have yes : Ev (fun k => coxswainref03_Parse.j0 k s false) (if ∀ c ∈ s.data.toList, isD c then (T (dval 0 s.data.toList), true) else ([], false)) := by
        have h := E_rparse_l s (by omega) s.size [] (Nat.le_refl _) (by rw [List.drop_of_length_le (by simp)]; rfl) (by rw [List.drop_of_length_le (by simp)]; simp)
        refine Ev.step (f := fun k => coxswainref03_Parse.l0 k s [] ((s.size : Int) - 1)) (fun k => ?_) h
        simp only [coxswainref03_Parse.j0]
        rw [if_neg (by simp), w64 (by omega) (by omega)]
      by_cases h2 : bt s 0 = 48
      · refine Ev.congr (fun k => if_pos h2) ?_
        by_cases h3 : 1 < s.size
        · rw [if_neg (fun h => h.2.2.1 ⟨h2, h3⟩), decide_eq_true (show (s.size : Int) > 1 by omega)]
          exact no
        · rw [decide_eq_false (show ¬ (s.size : Int) > 1 by omega)]
          have e : (s.size ≠ 0 ∧ s.size ≤ 400 ∧ ¬ (bt s 0 = 48 ∧ 1 < s.size) ∧ ∀ c ∈ s.data.toList, isD c) ↔ (∀ c ∈ s.data.toList, isD c) := ⟨fun h => h.2.2.2, fun h => ⟨h0, by omega, fun h' => h3 h'.2, h⟩⟩
          simp only [e]
          exact yes
      · refine Ev.congr (fun k => if_neg h2) ?_
        have e : (s.size ≠ 0 ∧ s.size ≤ 400 ∧ ¬ (bt s 0 = 48 ∧ 1 < s.size) ∧ ∀ c ∈ s.data.toList, isD c) ↔ (∀ c ∈ s.data.toList, isD c) := ⟨fun h => h.2.2.2, fun h => ⟨h0, by omega, fun h' => h2 h'.1, h⟩⟩
        simp only [e]
        exact yes
theorem E_rparse_good (s : ByteArray) (h : good s) : Ev (fun k => coxswainref03_Parse.f k s) (T (dval 0 s.data.toList), true) := by
  have := E_rparse s
  unfold good at h
  rw [if_pos h] at this
  exact this
theorem E_rparse_bad (s : ByteArray) (h : ¬ good s) : Ev (fun k => coxswainref03_Parse.f k s) ([], false) := by
  have := E_rparse s
  unfold good at h
  rw [if_neg h] at this
  exact this
theorem bl_len (a : Nat) : bl a ≤ 32 * (N a).length := by
  by_cases h : a = 0
  · subst h; simp [bl_zero]
  · obtain ⟨p, q⟩ := bits_form a h
    have hi : (N a).length - 1 < (N a).length := by omega
    have hz := (DN_N a).get _ hi
    have hg : (N a)[(N a).length - 1]?.getD 0 = (N a)[(N a).length - 1] := by simp [hi]
    rw [hg] at q
    have hb : bl ((N a)[(N a).length - 1]).toNat ≤ 32 := bl_le (by omega)
    omega
theorem awake3 : coxswainlaw03_awake.f 600 = some true := by kernel_rfl
theorem E_awake3 : Ev (fun k => coxswainlaw03_awake.f k) true := Ev.of (fun k => coxswainlaw03_awake.mono k) awake3
/-- what is gathered so far: digits, the first one no nought -/
def lead (x : ByteArray) : Prop := (∀ c ∈ x.data.toList, isD c) ∧ (0 < x.size → bt x 0 ≠ 48)
theorem lead_good {x : ByteArray} (h : lead x) (h0 : x.size ≠ 0) (h1 : x.size ≤ 400) : good x := ⟨h0, h1, fun h' => h.2 (by omega) h'.1, h.1⟩
theorem E_of_end (n : Nat) (hn : n ≤ 400) (x : ByteArray) (hx : lead x) (hs : x.size ≤ n) :
    ∃ a, a < 10 ^ n ∧ Ev (fun k => if x.toList = ([] : List UInt8) then ((nat_Parse.f k (⟨#[48]⟩ : ByteArray)).bind fun bt302 => ((coxswainref03_Parse.f k (⟨#[48]⟩ : ByteArray)).bind fun bt307 => (some (bt302.1, bt307.1)))) else ((nat_Parse.f k x).bind fun bt311 => ((coxswainref03_Parse.f k x).bind fun bt316 => (some (bt311.1, bt316.1))))) (N a, T a) := by
  by_cases h0 : x.size = 0
  · have g : good (⟨#[48]⟩ : ByteArray) := ⟨by decide, by decide, by decide, by decide⟩
    refine ⟨0, Nat.pow_pos (by omega), Ev.congr (fun k => if_pos ((toList_nil_iff x).2 h0)) ?_⟩
    exact Ev.bind (E_parse_good _ g) (Ev.bind (E_rparse_good _ g) (Ev.now _))
  · have g := lead_good hx h0 (by omega)
    refine ⟨dval 0 x.data.toList, ?_, Ev.congr (fun k => if_neg (fun h => h0 ((toList_nil_iff x).1 h))) ?_⟩
    · have := dval_lt x.data.toList 0 0 g.2.2.2 (by omega)
      have hl : x.data.toList.length = x.size := by simp
      rw [hl, Nat.zero_add] at this
      exact Nat.lt_of_lt_of_le this (Nat.pow_le_pow_right (by omega) hs)
    · exact Ev.bind (E_parse_good _ g) (Ev.bind (E_rparse_good _ g) (Ev.now _))
theorem lead_snoc {x : ByteArray} (hx : lead x) (d : Int) (h0 : 0 ≤ d) (h1 : d < 10) (h2 : x.size = 0 → 0 < d) : lead (x ++ strOfNums [48 + d]) ∧ (x ++ strOfNums [48 + d]).size = x.size + 1 := by
  have hdata : (x ++ strOfNums [48 + d]).data.toList = x.data.toList ++ [UInt8.ofNat (48 + d).toNat] := by simp [strOfNums]
  have hc : (UInt8.ofNat (48 + d).toNat).toNat = (48 + d).toNat := by simp; omega
  have hsz : (x ++ strOfNums [48 + d]).size = x.size + 1 := by
    have := congrArg List.length hdata
    simpa using this
  refine ⟨⟨?_, ?_⟩, hsz⟩
  · intro c hcm
    rw [hdata] at hcm
    rcases List.mem_append.1 hcm with h | h
    · exact hx.1 c h
    · simp at h
      subst h
      unfold isD
      rw [hc]
      omega
  · intro _
    rw [show (0 : Int) = ((0 : Nat) : Int) from rfl, bt_data _ 0 (by omega)]
    by_cases hz : x.size = 0
    · have : x.data.toList = [] := List.length_eq_zero_iff.1 (by simpa using hz)
      simp only [hdata, this, List.nil_append, List.getElem_cons_zero]
      rw [hc]
      have := h2 hz
      omega
    · have hb := hx.2 (by omega)
      rw [show (0 : Int) = ((0 : Nat) : Int) from rfl, bt_data _ 0 (by omega)] at hb
      simp only [hdata]
      rw [List.getElem_append_left (by simp; omega)]
      exact hb
theorem E_lawof (s : ByteArray) (hs : s.size ≤ 4611686018427387904) (n : Nat) (hn : n ≤ 400) : ∃ a, a < 10 ^ n ∧ Ev (fun k => coxswainlaw03_Of.f k s (n : Int)) (N a, T a) := by
  have main : ∀ (d i : Nat) (x : ByteArray), s.size - i = d → i ≤ s.size → lead x → x.size ≤ n → ∃ a, a < 10 ^ n ∧ Ev (fun k => coxswainlaw03_Of.l0 k s (n : Int) x (i : Int)) (N a, T a) := by
    intro d
    induction d with
    | zero =>
      intro i x hd hi hx hxs
      obtain ⟨a, ha, h⟩ := E_of_end n hn x hx hxs
      refine ⟨a, ha, Ev.step (f := fun k => coxswainlaw03_Of.j1 k s (n : Int) x (i : Int) false) (fun k => by simp only [coxswainlaw03_Of.l0]; rw [if_neg (by omega)]) ?_⟩
      exact Ev.step (fun k => by simp only [coxswainlaw03_Of.j1]; rw [if_neg (by simp)]) h
    | succ d ih =>
      intro i x hd hi hx hxs
      by_cases hfull : x.size < n
      · have hb := bt_rng s (i : Int)
        have ht : Int.tmod (bt s i) 16 = bt s i % 16 := Int.tmod_eq_emod_of_nonneg hb.1
        have hnext : wrap64 ((i : Int) + 1) = ((i + 1 : Nat) : Int) := by rw [w64 (by omega) (by omega)]; omega
        by_cases hd10 : bt s i % 16 < 10 ∧ (x.size = 0 → 0 < bt s i % 16)
        · have hsn := lead_snoc hx (bt s i % 16) (by omega) hd10.1 hd10.2
          obtain ⟨a, ha, h⟩ := ih (i + 1) (x ++ strOfNums [48 + bt s i % 16]) (by omega) (by omega) hsn.1 (by omega)
          refine ⟨a, ha, Ev.step (f := fun k => coxswainlaw03_Of.j1 k s (n : Int) x (i : Int) true) (fun k => by simp only [coxswainlaw03_Of.l0]; rw [if_pos (by omega), decide_eq_true (show (x.size : Int) < (n : Int) by omega)]) ?_⟩
          refine Ev.step (f := fun k => coxswainlaw03_Of.l0 k s (n : Int) (x ++ strOfNums [48 + bt s i % 16]) ((i + 1 : Nat) : Int)) (fun k => ?_) h
          simp only [coxswainlaw03_Of.j1]
          rw [if_pos trivial, if_pos (by omega), if_pos (by omega), ht, if_pos hd10.1, show (48 + bt s i % 16) % 256 = 48 + bt s i % 16 by omega, hnext]
          simp only [Option.bind_some]
          by_cases hz : x.size = 0
          · rw [if_pos ((toList_nil_iff x).2 hz), if_pos (hd10.2 hz), if_pos (by rw [strOfNums_size]; simp; omega)]
          · rw [if_neg (fun h => hz ((toList_nil_iff x).1 h)), if_pos (by rw [strOfNums_size]; simp; omega)]
        · obtain ⟨a, ha, h⟩ := ih (i + 1) x (by omega) (by omega) hx hxs
          refine ⟨a, ha, Ev.step (f := fun k => coxswainlaw03_Of.j1 k s (n : Int) x (i : Int) true) (fun k => by simp only [coxswainlaw03_Of.l0]; rw [if_pos (by omega), decide_eq_true (show (x.size : Int) < (n : Int) by omega)]) ?_⟩
          refine Ev.step (f := fun k => coxswainlaw03_Of.l0 k s (n : Int) x ((i + 1 : Nat) : Int)) (fun k => ?_) h
          simp only [coxswainlaw03_Of.j1]
          rw [if_pos trivial, if_pos (by omega), if_pos (by omega), ht, hnext]
          by_cases h10 : bt s i % 16 < 10
          · have hz : x.size = 0 := by
              by_cases hz : x.size = 0
              · exact hz
              · exact absurd ⟨h10, fun h => absurd h hz⟩ hd10
            have hp : ¬ 0 < bt s i % 16 := fun hp => hd10 ⟨h10, fun _ => hp⟩
            rw [if_pos h10, if_pos ((toList_nil_iff x).2 hz), if_neg (by omega)]
          · rw [if_neg h10]
      · obtain ⟨a, ha, h⟩ := E_of_end n hn x hx hxs
        refine ⟨a, ha, Ev.step (f := fun k => coxswainlaw03_Of.j1 k s (n : Int) x (i : Int) false) (fun k => by simp only [coxswainlaw03_Of.l0]; rw [if_pos (by omega), decide_eq_false (show ¬ (x.size : Int) < (n : Int) by omega)]) ?_⟩
        exact Ev.step (fun k => by simp only [coxswainlaw03_Of.j1]; rw [if_neg (by simp)]) h
  have := main s.size 0 (⟨#[]⟩ : ByteArray) rfl (by omega) ⟨by simp, fun h => absurd h (by decide)⟩ (Nat.zero_le _)
  unfold coxswainlaw03_Of.f
  exact this
end Go.Proofs.Ytclmdidgioggdaa.Num

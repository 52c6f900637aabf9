/- Regions that draw their order: the operations that change the world may come in several orders (Es), and what they yield may be unknown: g n is the world when n of them are done, and what the last one of these yielded. -/
import Derived.Test.YtakefjdckacgpaaFix3
namespace Go.Proofs.Ytakefjdckacgpaa.Cod
section
variable {P : Program} {ops : Array Oper}
theorem wp_at4 {J : World → Value → Prop} {a b : Act} {o : Oper} {w : World} (h1 : o.wp P a w (fun a' w' => ∃ u, a' = a.put o.dst u ∧ J w' u) (fun _ _ _ => False)) (he : execOp b.eval o = execOp a.eval o) (hs : a.tmps.size = b.tmps.size) {Q : Exit → Act → World → Prop} :
    o.wp P b w (fun a' w' => ∃ u, a' = b.put o.dst u ∧ J w' u) Q := by
  unfold Oper.wp at *
  rw [he]
  generalize (execOp a.eval o).run P w = r at *
  cases r with
  | ok n w' =>
    cases n <;> simp only [Oper.upon] at h1 ⊢
    case value u => obtain ⟨u', h2, h3⟩ := h1; exact ⟨u', put_same hs h2, h3⟩
    case skip => obtain ⟨u', h2, h3⟩ := h1; exact ⟨u', put_same hs h2, h3⟩
    case defer d => obtain ⟨u', h2, h3⟩ := h1; exact (put_defers_ne h2).elim
    case enter f args =>
      refine Calls.mono h1 fun e w'' he => ?_
      cases e with
      | returned u => obtain ⟨u', h2, h3⟩ := he; exact ⟨u', put_same hs h2, h3⟩
      | panicked c => exact he.elim
      | outgrown => exact (letsOut_false he).elim
    case row row args => exact Rows.mono h1 fun u w'' he => by obtain ⟨u', h2, h3⟩ := he; exact ⟨u', put_same hs h2, h3⟩
  | halt x w' => cases x <;> simp only [Oper.upon] at h1
section
variable (P : Program) (ops : Array Oper) (E : List Nat) (Spec : Nat → World → World → Value → Prop)
def Cl4 (g : Nat → World × Value) (i : Nat) (o : Oper) (a : Act) (v : Value) : Prop :=
  if i ∈ E then v = (g (E.idxOf i + 1)).2 ∧ o.wp P a (g (E.idxOf i)).1 (fun a' w' => ∃ u, a' = a.put o.dst u ∧ Spec i (g (E.idxOf i)).1 w' u) (fun _ _ _ => False)
  else plainB o = true ∧ ∀ s, loOf E o ≤ s → s ≤ hiR ops E i → FixOp P (· = (g s).1) a o v
def fixRun4 (g : Nat → World × Value) (K : Act → Prop) : List Oper → Nat → Act → Prop := fixRunG ops (Cl4 P ops E Spec g) (fun i => i ∉ E) K
def Ok4 (w0 : World) (g : Nat → World × Value) : Prop := (g 0).1 = w0 ∧ ∀ k, k < E.length → Spec (E.getD k 0) (g k).1 (g (k + 1)).1 (g (k + 1)).2
end
/-- the orders: of the same places, each once, and whatever may come next is the next one of one of them -/
def esOk (ops : Array Oper) (Es : List (List Nat)) : Bool :=
  (Es.all fun E => decide E.Nodup && Es.all fun E' => E.all fun e => E'.contains e) &&
  Es.all fun E => (List.range E.length).all fun s => (E.drop s).all fun i =>
    (match ops[i]? with | some o => E.any fun e => waitsB o e && !(E.take s).contains e | none => false) || Es.any fun E' => E'.take s == E.take s && E'[s]? == some i
structure EsOk (ops : Array Oper) (Es : List (List Nat)) : Prop where
  nodup : ∀ E ∈ Es, E.Nodup
  perm : ∀ E ∈ Es, ∀ E' ∈ Es, ∀ e ∈ E, e ∈ E'
  next : ∀ E ∈ Es, ∀ s, ∀ i ∈ E.drop s, ∀ o, ops[i]? = some o → (∀ e ∈ E, waitsB o e = true → e ∈ E.take s) → ∃ E' ∈ Es, E'.take s = E.take s ∧ E'[s]? = some i
theorem esOk_spec {Es : List (List Nat)} (h : esOk ops Es = true) : EsOk ops Es := by
  simp only [esOk, Bool.and_eq_true, List.all_eq_true, decide_eq_true_eq, List.contains_eq_mem, List.mem_range] at h
  obtain ⟨h1, h2⟩ := h
  refine ⟨fun E hE => (h1 E hE).1, fun E hE E' hE' e he => (h1 E hE).2 E' hE' e he, fun E hE s i hi o ho hw => ?_⟩
  have hs : s < E.length := by
    rcases Nat.lt_or_ge s E.length with h | h
    · exact h
    · rw [List.drop_eq_nil_of_le h] at hi; cases hi
  have h3 := h2 E hE s hs i hi
  rw [ho] at h3
  simp only [Bool.or_eq_true, List.any_eq_true, Bool.and_eq_true, Bool.not_eq_true', decide_eq_false_iff_not, beq_iff_eq] at h3
  rcases h3 with ⟨e, he, hwe, hn⟩ | ⟨E', hE', h4, h5⟩
  · exact absurd (hw e he hwe) hn
  · exact ⟨E', hE', h4, h5⟩
def OnWay4 (ops : Array Oper) (Es : List (List Nat)) (Spec : Nat → World → World → Value → Prop) (w0 : World) (a0 : Act) (F : List Nat → (Nat → World × Value) → Act) (listed : Array Bool) (a : Act) (w : World) : Prop :=
  Closed ops listed ∧ listed.size = ops.size ∧ ∃ E ∈ Es, ∃ s, s ≤ E.length ∧ (∀ e ∈ E.take s, listed.getD e false = true) ∧ (∀ e ∈ E.drop s, listed.getD e false = false) ∧ ∃ g, Ok4 E Spec w0 g ∧ w = (g s).1 ∧
    ∀ E' ∈ Es, E'.take s = E.take s → ∀ g', Ok4 E' Spec w0 g' → (∀ n, n ≤ s → g' n = g n) → Fits ops a0 (F E' g') listed a
theorem lo4 {E : List Nat} {listed : Array Bool} {s : Nat} (hs2 : ∀ e ∈ E.drop s, listed.getD e false = false) {o : Oper} (hready : ∀ e ∈ o.after, Region.binds .any e = true → listed.getD e.on false = true) : loOf E o ≤ s := by
  refine loOf_le fun j e hj hw => ?_
  obtain ⟨x, hx, hb, hon⟩ := waitsB_spec hw
  have hl := hready x hx hb
  rw [hon] at hl
  rcases Nat.lt_or_ge j s with h1 | h1
  · omega
  · exfalso
    obtain ⟨hjl, hje⟩ := List.getElem?_eq_some_iff.1 hj
    have hm : e ∈ E.drop s := List.mem_drop_iff_getElem.2 ⟨j - s, by omega, by rw [← hje]; congr 1; omega⟩
    rw [hs2 e hm] at hl
    cases hl
theorem hi4 {listed : Array Bool} {E : List Nat} (hcl : Closed ops listed) {s : Nat} (hs : s ≤ E.length) (hs1 : ∀ e ∈ E.take s, listed.getD e false = true) (i : Nat) (hun : listed.getD i false = false) : s ≤ hiR ops E i := by
  have hR := reach_un hcl (List.range ops.size) [i] (fun j hj => by rw [List.mem_singleton.1 hj]; exact hun)
  unfold hiR
  refine foldl_min _ _ hs fun x hx => ?_
  obtain ⟨⟨e, k⟩, hm, rfl⟩ := List.mem_map.1 hx
  have hk := List.mem_zipIdx_iff_getElem?.1 hm
  dsimp only
  split
  · rename_i hc
    have hu := hR e (by simpa using hc)
    rcases Nat.lt_or_ge k s with h1 | h1
    · exfalso
      obtain ⟨hkl, hke⟩ := List.getElem?_eq_some_iff.1 hk
      have hm : e ∈ E.take s := List.mem_take_iff_getElem.2 ⟨k, by omega, hke⟩
      rw [hs1 e hm] at hu
      cases hu
    · exact h1
  · exact hs
/-- the way g up to s, then x, then on -/
def contG (nx : Nat → World → World × Value) (k : Nat) (x : World × Value) : Nat → World × Value | 0 => x | m + 1 => nx (k + 1 + m) (contG nx k x m).1
def joinG (g : Nat → World × Value) (nx : Nat → World → World × Value) (k : Nat) (x : World × Value) (n : Nat) : World × Value := if n ≤ k then g n else contG nx k x (n - (k + 1))
theorem join_old {g : Nat → World × Value} {nx : Nat → World → World × Value} {k n : Nat} {x : World × Value} (h : n ≤ k) : joinG g nx k x n = g n := if_pos h
theorem join_at {g : Nat → World × Value} {nx : Nat → World → World × Value} {k : Nat} {x : World × Value} : joinG g nx k x (k + 1) = x := by
  unfold joinG
  rw [if_neg (by omega), Nat.sub_self]
  rfl
theorem join_ok {E : List Nat} {Spec : Nat → World → World → Value → Prop} {w0 : World} {g : Nat → World × Value} {nx : Nat → World → World × Value} {k : Nat} {x : World × Value} (h0 : (g 0).1 = w0) (hnx : ∀ k W, Spec (E.getD k 0) W (nx k W).1 (nx k W).2)
    (hlt : ∀ n, n < k → Spec (E.getD n 0) (g n).1 (g (n + 1)).1 (g (n + 1)).2) (hx : Spec (E.getD k 0) (g k).1 x.1 x.2) : Ok4 E Spec w0 (joinG g nx k x) := by
  refine ⟨by rw [join_old (Nat.zero_le _)]; exact h0, fun n _ => ?_⟩
  rcases Nat.lt_trichotomy n k with h1 | h1 | h1
  · rw [join_old (by omega), join_old (by omega)]
    exact hlt n h1
  · subst h1
    rw [join_old (Nat.le_refl _), join_at]
    exact hx
  · unfold joinG
    rw [if_neg (by omega), if_neg (by omega), show n + 1 - (k + 1) = (n - (k + 1)) + 1 by omega]
    have := hnx n (contG nx k x (n - (k + 1))).1
    show Spec _ _ (nx (k + 1 + (n - (k + 1))) _).1 (nx (k + 1 + (n - (k + 1))) _).2
    rw [show k + 1 + (n - (k + 1)) = n by omega]
    exact this
theorem take_getD {E E' : List Nat} {s n : Nat} (h : E'.take s = E.take s) (hn : n < s) : E'.getD n 0 = E.getD n 0 := by
  have := congrArg (·[n]?) h
  simp only [List.getElem?_take, if_pos hn] at this
  rw [List.getD_eq_getElem?_getD, List.getD_eq_getElem?_getD, this]
theorem onWay4_step {Es : List (List Nat)} {Spec : Nat → World → World → Value → Prop} {w0 : World} {a0 : Act} {F : List Nat → (Nat → World × Value) → Act} (ok : FixOk2 ops) (hes : EsOk ops Es) (tot : ∀ i W, ∃ W' u, Spec i W W' u)
    (hfx : ∀ E ∈ Es, ∀ g, Ok4 E Spec w0 g → ∀ (j : Nat) (o : Oper), ops[j]? = some o → ∃ A, Before ops 0 j a0 (F E g) A ∧ FixedG ops (Cl4 P ops E Spec g) (fun i => i ∉ E) (F E g) A j o) {Q : Exit → Act → World → Prop} {listed : Array Bool} {a : Act} {w : World} (h : OnWay4 ops Es Spec w0 a0 F listed a w) {i : Nat} (hi : i ∈ Region.ready .any ops listed) :
    wpOp P ops Q i (OnWay4 ops Es Spec w0 a0 F (listed.setIfInBounds i true)) a w := by
  obtain ⟨hcl, hls, E, hE, s, hs, hs1, hs2, g, hg, rfl, hall⟩ := h
  obtain ⟨hun0, o, ho, hready⟩ := mem_ready.1 hi
  have hilt := (Array.getElem?_eq_some_iff.1 ho).1
  have hun : listed.getD i false = false := by
    have hi' : i < listed.size := by omega
    simp [hi'] at hun0 ⊢; exact hun0
  have hset : (listed.setIfInBounds i true).getD i false = true := by
    have hi' : i < listed.size := by omega
    simp [hi']
  have hcl' := closed_step hcl ho hready
  have hls' : (listed.setIfInBounds i true).size = ops.size := by simpa using hls
  have nxs : ∀ E : List Nat, ∃ nx : Nat → World → World × Value, ∀ k W, Spec (E.getD k 0) W (nx k W).1 (nx k W).2 := fun E => ⟨fun k W => ((tot (E.getD k 0) W).choose, (tot (E.getD k 0) W).choose_spec.choose), fun k W => (tot (E.getD k 0) W).choose_spec.choose_spec⟩
  -- the other orders that have begun alike
  have pre : ∀ E' ∈ Es, E'.take s = E.take s → s ≤ E'.length ∧ (∀ e ∈ E'.take s, listed.getD e false = true) ∧ (∀ e ∈ E'.drop s, listed.getD e false = false) := by
    intro E' hE' ht
    refine ⟨?_, fun e he => hs1 e (ht ▸ he), fun e he => ?_⟩
    · have := congrArg List.length ht
      simp only [List.length_take] at this
      omega
    · have h1 : e ∈ E := hes.perm E' hE' E hE e (List.mem_of_mem_drop he)
      rw [← List.take_append_drop s E, List.mem_append] at h1
      rcases h1 with h1 | h1
      · exfalso
        rw [← ht] at h1
        have hn := hes.nodup E' hE'
        rw [← List.take_append_drop s E', List.nodup_append] at hn
        exact hn.2.2 e h1 e he rfl
      · exact hs2 e h1
  have at_ : ∀ E' ∈ Es, E'.take s = E.take s → ∀ g', Ok4 E' Spec w0 g' → (∀ n, n ≤ s → g' n = g n) → ∃ A, execOp a.eval o = execOp A.eval o ∧ A.tmps.size = a.tmps.size ∧ Region.wanted o (yielded ops a.tmps) = Region.wanted o (yielded ops A.tmps) ∧ FixedG ops (Cl4 P ops E' Spec g') (fun i => i ∉ E') (F E' g') A i o ∧ Fits ops a0 (F E' g') listed a := by
    intro E' hE' ht g' h1 h2
    have hf := hall E' hE' ht g' h1 h2
    obtain ⟨A, hA, hFA⟩ := hfx E' hE' g' h1 i o ho
    have hlook := fits_look ok hcl hf ho hun hready hA
    exact ⟨A, exec_same ok.sel ho hlook, hA.size.trans hf.size.symm, wanted_same hlook, hFA, hf⟩
  unfold wpOp
  simp only [ho]
  by_cases hiE : i ∈ E
  · have hid : i ∈ E.drop s := by
      have h1 := hiE
      rw [← List.take_append_drop s E, List.mem_append] at h1
      rcases h1 with h1 | h1
      · rw [hs1 i h1] at hun; cases hun
      · exact h1
    obtain ⟨E2, hE2, ht2, hat2⟩ := hes.next E hE s i hid o ho (fun e he hw => by
      obtain ⟨x, hx, hb, hon⟩ := waitsB_spec hw
      have hl := hready x hx hb
      rw [hon] at hl
      rw [← List.take_append_drop s E, List.mem_append] at he
      rcases he with he | he
      · exact he
      · rw [hs2 e he] at hl; cases hl)
    have idx : ∀ E' ∈ Es, E'[s]? = some i → E'.idxOf i = s ∧ i ∈ E' ∧ s < E'.length ∧ E'.getD s 0 = i := by
      intro E' hE' h
      obtain ⟨hl, he⟩ := List.getElem?_eq_some_iff.1 h
      have hm : i ∈ E' := he ▸ List.getElem_mem hl
      refine ⟨?_, hm, hl, by rw [List.getD_eq_getElem?_getD, h]; rfl⟩
      have hk : E'.idxOf i < E'.length := List.idxOf_lt_length_iff.2 hm
      have hg : E'[E'.idxOf i] = i := List.getElem_idxOf hk
      have hn := hes.nodup E' hE'
      rcases Nat.lt_trichotomy (E'.idxOf i) s with h1 | h1 | h1
      · exact absurd (hg.trans he.symm) (List.pairwise_iff_getElem.1 hn _ _ hk hl h1)
      · exact h1
      · exact absurd (he.trans hg.symm) (List.pairwise_iff_getElem.1 hn _ _ hl hk h1)
    obtain ⟨hi2, hm2, hl2, hgd2⟩ := idx E2 hE2 hat2
    obtain ⟨nx, hnx⟩ := nxs E2
    obtain ⟨W1, u1, hw1⟩ := tot (E2.getD s 0) (g s).1
    have hok2 : Ok4 E2 Spec w0 (joinG g nx s (W1, u1)) := join_ok hg.1 hnx (fun n hn => by rw [take_getD ht2 hn]; exact hg.2 n (by omega)) hw1
    obtain ⟨A, hex, hsz, hwa, hFA, hf⟩ := at_ E2 hE2 ht2 _ hok2 (fun n hn => join_old hn)
    by_cases hw : Region.wanted o (yielded ops a.tmps) = true
    · rw [if_pos hw]
      obtain ⟨v, hv, _⟩ := hFA.1 (by rw [← hwa]; exact hw)
      unfold Cl4 at hv
      rw [if_pos hm2, hi2, join_old (Nat.le_refl _)] at hv
      refine .inl (Oper.wp_mono (fun a' w' h => ?_) (wp_at4 hv.2 hex hsz))
      obtain ⟨u, rfl, hsp⟩ := h
      obtain ⟨hsl, hp1, hp2⟩ := pre E2 hE2 ht2
      refine ⟨hcl', hls', E2, hE2, s + 1, hl2, ?_, ?_, joinG g nx s (w', u), join_ok hg.1 hnx (fun n hn => by rw [take_getD ht2 hn]; exact hg.2 n (by omega)) (by rw [hgd2]; exact hsp), by rw [join_at], ?_⟩
      · intro e he
        rw [List.take_add_one, List.mem_append] at he
        rcases he with he | he
        · exact getD_set_true (hp1 e he)
        · rw [hat2] at he
          simp at he
          rw [he]; exact hset
      · intro e he
        have hd : e ∈ E2.drop s := by
          obtain ⟨j, hj, hje⟩ := List.mem_drop_iff_getElem.1 he
          exact List.mem_drop_iff_getElem.2 ⟨j + 1, by omega, by rw [← hje]; congr 1; omega⟩
        have hne : i ≠ e := by
          rintro rfl
          obtain ⟨j, hj, hje⟩ := List.mem_drop_iff_getElem.1 he
          obtain ⟨_, he2⟩ := List.getElem?_eq_some_iff.1 hat2
          have h5 : E2[s + 1 + j]'(by omega) = i := by simpa [Nat.add_comm] using hje
          exact (List.pairwise_iff_getElem.1 (hes.nodup E2 hE2) s (s + 1 + j) hl2 (by omega) (by omega)) (he2.trans h5.symm)
        rw [getD_set_ne false hne]
        exact hp2 e hd
      · intro E' hE' ht g' h1 h2
        have ht' : E'.take s = E.take s := by
          have := congrArg (List.take s) ht
          rw [List.take_take, List.take_take, Nat.min_eq_left (by omega)] at this
          rw [this, ht2]
        have hat' : E'[s]? = some i := by
          have := congrArg (·[s]?) ht
          simpa only [List.getElem?_take, Nat.lt_add_one, if_true, hat2] using this
        obtain ⟨hi', hm', _, _⟩ := idx E' hE' hat'
        have h3 : ∀ n, n ≤ s → g' n = g n := fun n hn => by rw [h2 n (by omega), join_old hn]
        have h4 : g' (s + 1) = (w', u) := by rw [h2 (s + 1) (Nat.le_refl _), join_at]
        obtain ⟨A', hex', hsz', hwa', hFA', hf'⟩ := at_ E' hE' ht' g' h1 h3
        obtain ⟨v', hv', hF'⟩ := hFA'.1 (by rw [← hwa']; exact hw)
        unfold Cl4 at hv'
        rw [if_pos hm', hi', h4] at hv'
        rw [hv'.1] at hF'
        exact fits_step hls hf' ho _ hF'
    · exact absurd hm2 (hFA.2 (by rw [← hwa]; simpa using hw)).1
  · have hiE' : ∀ E' ∈ Es, i ∉ E' := fun E' hE' hm => hiE (hes.perm E' hE' E hE i hm)
    have hs1' : ∀ e ∈ E.take s, (listed.setIfInBounds i true).getD e false = true := fun e he => getD_set_true (hs1 e he)
    have hs2' : ∀ e ∈ E.drop s, (listed.setIfInBounds i true).getD e false = false := fun e he => by
      rw [getD_set_ne false (fun h => hiE (by rw [h]; exact List.mem_of_mem_drop he))]
      exact hs2 e he
    obtain ⟨A, hex, hsz, hwa, hFA, hf⟩ := at_ E hE rfl g hg (fun _ _ => rfl)
    by_cases hw : Region.wanted o (yielded ops a.tmps) = true
    · rw [if_pos hw]
      have one : ∀ E' ∈ Es, E'.take s = E.take s → ∀ g', Ok4 E' Spec w0 g' → (∀ n, n ≤ s → g' n = g n) → ∃ v, (F E' g').put o.dst v = F E' g' ∧ plainB o = true ∧ o.wp P a (g s).1 (fun a' w' => a' = a.put o.dst v ∧ w' = (g s).1) Q := by
        intro E' hE' ht g' h1 h2
        obtain ⟨A', hex', hsz', hwa', hFA', hf'⟩ := at_ E' hE' ht g' h1 h2
        obtain ⟨hsl, hp1, hp2⟩ := pre E' hE' ht
        obtain ⟨v', hv', hF'⟩ := hFA'.1 (by rw [← hwa']; exact hw)
        unfold Cl4 at hv'
        rw [if_neg (hiE' E' hE')] at hv'
        have h3 := (hv'.2 s (lo4 hp2 hready) (hi4 hcl hsl hp1 i hun)).at_ hex' hsz' (Q := Q) (g s).1 (by rw [h2 _ (Nat.le_refl _)])
        rw [h2 _ (Nat.le_refl _)] at h3
        exact ⟨v', hF', hv'.1, h3⟩
      obtain ⟨v0, _, hpl, h0⟩ := one E hE rfl g hg (fun _ _ => rfl)
      have hpv := fun r w' => plain_value (P := P) (ρ := a.eval) hpl (w := (g s).1) (w' := w') (r := r)
      refine .inl ?_
      unfold Oper.wp at h0 one ⊢
      generalize (execOp a.eval o).run P (g s).1 = r at *
      cases r with
      | halt x w' => cases x <;> simp only [Oper.upon] at h0 ⊢ <;> exact h0
      | ok n w' =>
        obtain ⟨u, rfl⟩ := hpv n w' rfl
        simp only [Oper.upon] at h0 one ⊢
        obtain ⟨_, rfl⟩ := h0
        refine ⟨hcl', hls', E, hE, s, hs, hs1', hs2', g, hg, rfl, fun E' hE' ht g' h1 h2 => ?_⟩
        obtain ⟨v', hF', _, h3, _⟩ := one E' hE' ht g' h1 h2
        rw [h3]
        exact fits_step hls (hall E' hE' ht g' h1 h2) ho _ hF'
    · rw [if_neg hw]
      refine ⟨hcl', hls', E, hE, s, hs, hs1', hs2', g, hg, rfl, fun E' hE' ht g' h1 h2 => ?_⟩
      obtain ⟨A', hex', hsz', hwa', hFA', hf'⟩ := at_ E' hE' ht g' h1 h2
      exact fits_step hls hf' ho _ (hFA'.2 (by rw [← hwa']; simpa using hw)).2
theorem onWay4_any {Es : List (List Nat)} {Spec : Nat → World → World → Value → Prop} {w0 : World} {a0 : Act} {F : List Nat → (Nat → World × Value) → Act} (ok : FixOk2 ops) (hes : EsOk ops Es) (hEb : ∀ E ∈ Es, ∀ e ∈ E, e < ops.size) (tot : ∀ i W, ∃ W' u, Spec i W W' u)
    (hF0 : ∀ E ∈ Es, ∀ g, Ok4 E Spec w0 g → ∀ t : Nat, (∀ (j : Nat) (o : Oper), ops[j]? = some o → o.dst ≠ some t) → (F E g).tmps[t]? = a0.tmps[t]?)
    (hfx : ∀ E ∈ Es, ∀ g, Ok4 E Spec w0 g → ∀ (j : Nat) (o : Oper), ops[j]? = some o → ∃ A, Before ops 0 j a0 (F E g) A ∧ FixedG ops (Cl4 P ops E Spec g) (fun i => i ∉ E) (F E g) A j o) {Q : Exit → Act → World → Prop} (hQ : ∀ E ∈ Es, ∀ g, Ok4 E Spec w0 g → Q .normal (F E g) (g E.length).1) :
    ∀ (fuel : Nat) (listed : Array Bool) (a : Act) (w : World), ((List.range ops.size).filter fun i => !listed.getD i true).length ≤ fuel → OnWay4 ops Es Spec w0 a0 F listed a w → wpAny P .any ops Q fuel listed a w := by
  have fin : ∀ (listed : Array Bool) (a : Act) (w : World), Region.ready .any ops listed = [] → OnWay4 ops Es Spec w0 a0 F listed a w → Q .normal a w := by
    intro listed a w hr ⟨hcl, hls, E, hE, s, hs, hs1, hs2, g, hg, hw, hall⟩
    have hf := hall E hE rfl g hg (fun _ _ => rfl)
    have hl := all_listed2 ok hr hls
    have hA : a = F E g := act_ext hf.def_ fun t => by
      by_cases hw : ∃ (j : Nat) (o : Oper), ops[j]? = some o ∧ o.dst = some t
      · obtain ⟨j, o, ho, hd⟩ := hw
        exact hf.new t j o ho hd (hl j (Array.getElem?_eq_some_iff.1 ho).1)
      · rw [hf.old t fun j o ho hd => absurd ⟨j, o, ho, hd⟩ hw, hF0 E hE g hg t fun j o ho hd => hw ⟨j, o, ho, hd⟩]
    have hS : s = E.length := by
      rcases Nat.lt_or_ge s E.length with h | h
      · exfalso
        have hm : E[s] ∈ E.drop s := List.mem_drop_iff_getElem.2 ⟨0, by omega, by congr 1⟩
        have h1 := hs2 _ hm
        rw [hl _ (hEb E hE _ (List.getElem_mem h))] at h1
        cases h1
      · omega
    rw [hA, hw, hS]
    exact hQ E hE g hg
  intro fuel
  induction fuel with
  | zero =>
    intro listed a w hc h
    have hr : Region.ready .any ops listed = [] := by
      cases hq : Region.ready .any ops listed with
      | nil => rfl
      | cons i l =>
        have hm : i ∈ Region.ready .any ops listed := by rw [hq]; simp
        obtain ⟨h0, o, ho, _⟩ := mem_ready.1 hm
        have : i ∈ (List.range ops.size).filter fun i => !listed.getD i true := List.mem_filter.2 ⟨List.mem_range.2 (Array.getElem?_eq_some_iff.1 ho).1, by simpa using h0⟩
        rw [List.eq_nil_of_length_eq_zero (Nat.le_zero.1 hc)] at this
        cases this
    exact ⟨hr, fin listed a w hr h⟩
  | succ fuel ih =>
    intro listed a w hc h
    refine ⟨fun hr => fin listed a w hr h, fun i hi => ?_⟩
    refine wpOp_mono (fun a' w' h' => ih (listed.setIfInBounds i true) a' w' ?_ h') (onWay4_step ok hes tot hfx h hi)
    obtain ⟨h0, o, ho, _⟩ := mem_ready.1 hi
    have hilt := (Array.getElem?_eq_some_iff.1 ho).1
    have hls := h.2.1
    have hsub : ∀ (l : List Nat), l.Nodup → i ∈ l → (l.filter fun j => !(listed.setIfInBounds i true).getD j true).length < (l.filter fun j => !listed.getD j true).length := by
      intro l
      induction l with
      | nil => intro _ h; cases h
      | cons x l ihl =>
        intro hn hm
        rw [List.nodup_cons] at hn
        by_cases hx : x = i
        · subst hx
          have hrest : (l.filter fun j => !(listed.setIfInBounds x true).getD j true) = l.filter fun j => !listed.getD j true := by
            refine List.filter_congr fun j hj => ?_
            have hne : x ≠ j := fun e => hn.1 (e ▸ hj)
            rw [getD_set_ne true hne]
          have hxl : x < listed.size := by omega
          have h1 : (listed.setIfInBounds x true).getD x true = true := by simp [hxl]
          rw [List.filter_cons, List.filter_cons, hrest, h1, h0]
          simp
        · have hm' : i ∈ l := by
            rcases List.mem_cons.1 hm with e | e
            · exact absurd e.symm hx
            · exact e
          have := ihl hn.2 hm'
          rw [List.filter_cons, List.filter_cons, getD_set_ne true (Ne.symm hx)]
          split
          · simpa using this
          · exact this
    have := hsub (List.range ops.size) List.nodup_range (List.mem_range.2 hilt)
    omega
/-- THE RULE: Es the orders in which the operations that change the world may come; Spec what each does, and yields -/
theorem region_fix4 {id : Nat} {l : List Oper} {Q : Exit → Act → World → Prop} {a : Act} {w : World} (Es : List (List Nat)) (E0 : List Nat) (hE0 : Es.head? = some E0) (Spec : Nat → World → World → Value → Prop) (hm : P.follows .mixedOrders = true) (hB : (fixB2 l.toArray && esOk l.toArray Es && Es.all (fun E => E.all fun e => decide (e < l.toArray.size))) = true)
    (tot : ∀ i W, ∃ W' u, Spec i W W' u) (h : ∀ E ∈ Es, ∀ g : Nat → World × Value, (g 0).1 = w.drew → (∀ k, k < E.length → Spec (E.getD k 0) (g k).1 (g (k + 1)).1 (g (k + 1)).2) → fixRun4 P l.toArray E Spec g (fun a' => Q .normal a' (g E.length).1) l 0 a) : (Code.region id l.toArray true).wp P Q a w := by
  simp only [Bool.and_eq_true, decide_eq_true_eq, List.all_eq_true] at hB
  obtain ⟨⟨hfix, hes⟩, hEb⟩ := hB
  have ok := fixOk2 hfix
  have hes := esOk_spec hes
  have hE0m : E0 ∈ Es := List.mem_of_mem_head? hE0
  have hh : ∀ E ∈ Es, ∀ g, Ok4 E Spec w.drew g → ∃ F : Act, Q .normal F (g E.length).1 ∧ F.tmps.size = a.tmps.size ∧ F.defers = a.defers ∧ (∀ t : Nat, (∀ (j : Nat) (o : Oper), 0 ≤ j → l.toArray[j]? = some o → o.dst ≠ some t) → F.tmps[t]? = a.tmps[t]?) ∧ ∀ (j : Nat) (o : Oper), 0 ≤ j → l.toArray[j]? = some o → ∃ A, Before l.toArray 0 j a F A ∧ FixedG l.toArray (Cl4 P l.toArray E Spec g) (fun i => i ∉ E) F A j o := fun E hE g hg => fix_allG ok l 0 a (by simp) (h E hE g hg.1 hg.2)
  classical
  let F : List Nat → (Nat → World × Value) → Act := fun E g => if hg : E ∈ Es ∧ Ok4 E Spec w.drew g then (hh E hg.1 g hg.2).choose else a
  have hF : ∀ E ∈ Es, ∀ g, Ok4 E Spec w.drew g → Q .normal (F E g) (g E.length).1 ∧ (F E g).tmps.size = a.tmps.size ∧ (F E g).defers = a.defers ∧ (∀ t : Nat, (∀ (j : Nat) (o : Oper), 0 ≤ j → l.toArray[j]? = some o → o.dst ≠ some t) → (F E g).tmps[t]? = a.tmps[t]?) ∧ ∀ (j : Nat) (o : Oper), 0 ≤ j → l.toArray[j]? = some o → ∃ A, Before l.toArray 0 j a (F E g) A ∧ FixedG l.toArray (Cl4 P l.toArray E Spec g) (fun i => i ∉ E) (F E g) A j o := by
    intro E hE g hg
    have e : F E g = (hh E hE g hg).choose := dif_pos ⟨hE, hg⟩
    rw [e]
    exact (hh E hE g hg).choose_spec
  clear_value F
  have hrep : ∀ j : Nat, (Array.replicate l.toArray.size false).getD j false = false := by
    intro j
    rw [Array.getD_eq_getD_getElem?, Array.getElem?_replicate]
    split <;> rfl
  obtain ⟨nx, hnx⟩ : ∃ nx : Nat → World → World × Value, ∀ k W, Spec (E0.getD k 0) W (nx k W).1 (nx k W).2 := ⟨fun k W => ((tot (E0.getD k 0) W).choose, (tot (E0.getD k 0) W).choose_spec.choose), fun k W => (tot (E0.getD k 0) W).choose_spec.choose_spec⟩
  let g0 : Nat → World × Value := fun n => Nat.rec (w.drew, undef) (fun k x => nx k x.1) n
  have hg0 : Ok4 E0 Spec w.drew g0 := ⟨rfl, fun k _ => hnx k (g0 k).1⟩
  refine wp_region_any hm (onWay4_any (a0 := a) (F := F) ok hes (fun E hE e he => hEb E hE e he) tot (fun E hE g hg t ht => (hF E hE g hg).2.2.2.1 t fun j o _ ho => ht j o ho) (fun E hE g hg j o ho => (hF E hE g hg).2.2.2.2 j o (Nat.zero_le _) ho) (fun E hE g hg => (hF E hE g hg).1) _ _ a _ ?_ ⟨?_, by simp, E0, hE0m, 0, Nat.zero_le _, by simp, fun e _ => hrep e, g0, hg0, rfl, fun E' hE' _ g' hg' _ => ⟨(hF E' hE' g' hg').2.1.symm, (hF E' hE' g' hg').2.2.1.symm, ?_, fun _ _ => rfl⟩⟩)
  · refine Nat.le_trans (List.length_filter_le _ _) (by simp)
  · intro j o _ hl
    rw [hrep] at hl
    cases hl
  · intro t j o _ _ hl
    rw [hrep] at hl
    cases hl
section
variable {E : List Nat} {Spec : Nat → World → World → Value → Prop} {g : Nat → World × Value} {K : Act → Prop} {a : Act} {o : Oper} {rest : List Oper} {i : Nat}
theorem fix4_nil (h : K a) : fixRun4 P ops E Spec g K [] i a := h
theorem fix4_step (v : Value) (hE : (!decide (i ∈ E) && plainB o) = true) (hw : Region.wanted o (yielded ops a.tmps) = true)
    (h : ∀ (J : Act → World → Prop) (s : Nat), loOf E o ≤ s → s ≤ hiR ops E i → (∀ w, w = (g s).1 → J (a.put o.dst v) w) → o.wp P a (g s).1 J (fun _ _ _ => False)) (hr : ∀ J : Act → Prop, (∀ a', fixRun4 P ops E Spec g K rest (i + 1) a' → J a') → J (a.put o.dst v)) : fixRun4 P ops E Spec g K (o :: rest) i a := by
  simp only [Bool.and_eq_true, Bool.not_eq_true', decide_eq_false_iff_not] at hE
  unfold fixRun4 fixRunG
  rw [if_pos hw]
  refine ⟨v, ?_, hr _ fun _ h => h⟩
  unfold Cl4
  rw [if_neg hE.1]
  refine ⟨hE.2, fun s h1 h2 w hI => ?_⟩
  rw [hI]
  exact h _ s h1 h2 fun _ h => ⟨rfl, h⟩
theorem fix4_mid (v : Value) (lo hi : Nat) (hE : (!decide (i ∈ E) && plainB o && decide (hiR ops E i ≤ hi) && decide (lo ≤ loOf E o)) = true) (hw : Region.wanted o (yielded ops a.tmps) = true)
    (h : ∀ (J : Act → World → Prop) (s : Nat), lo ≤ s → s ≤ hi → (∀ w, w = (g s).1 → J (a.put o.dst v) w) → o.wp P a (g s).1 J (fun _ _ _ => False)) (hr : ∀ J : Act → Prop, (∀ a', fixRun4 P ops E Spec g K rest (i + 1) a' → J a') → J (a.put o.dst v)) : fixRun4 P ops E Spec g K (o :: rest) i a := by
  simp only [Bool.and_eq_true, Bool.not_eq_true', decide_eq_false_iff_not, decide_eq_true_eq] at hE
  refine fix4_step v (by simp [hE.1.1]) hw (fun J s h1 h2 hJ => h J s (by omega) (by omega) hJ) hr
/-- at one stage alone -/
theorem fix4_one (s : Nat) (hE : (!decide (i ∈ E) && plainB o && decide (hiR ops E i ≤ s) && decide (s ≤ loOf E o)) = true) (hw : Region.wanted o (yielded ops a.tmps) = true)
    (h : ∀ J : Act → Prop, (∀ a', fixRun4 P ops E Spec g K rest (i + 1) a' → J a') → o.still P a (g s).1 J) : fixRun4 P ops E Spec g K (o :: rest) i a := by
  simp only [Bool.and_eq_true, Bool.not_eq_true', decide_eq_false_iff_not, decide_eq_true_eq] at hE
  obtain ⟨⟨⟨hE, hpl⟩, hhi⟩, hlo⟩ := hE
  have h1 := h _ (fun _ h => h)
  have key : ∃ v, o.wp P a (g s).1 (fun a' w' => a' = a.put o.dst v ∧ w' = (g s).1) (fun _ _ _ => False) ∧ fixRun4 P ops E Spec g K rest (i + 1) (a.put o.dst v) := by
    have hpv := fun r w' => plain_value (P := P) (ρ := a.eval) hpl (w := (g s).1) (w' := w') (r := r)
    unfold Oper.still at h1
    unfold Oper.wp
    generalize (execOp a.eval o).run P (g s).1 = r at *
    cases r with
    | halt x w' => simp only [Oper.stillUpon] at h1
    | ok n w' =>
      obtain ⟨u, rfl⟩ := hpv n w' rfl
      simp only [Oper.stillUpon, Oper.upon] at h1 ⊢
      exact ⟨u, ⟨rfl, h1.1⟩, h1.2⟩
  obtain ⟨v, hv, hr⟩ := key
  unfold fixRun4 fixRunG
  rw [if_pos hw]
  refine ⟨v, ?_, hr⟩
  unfold Cl4
  rw [if_neg hE]
  refine ⟨hpl, fun s' h1 h2 w hI => ?_⟩
  obtain rfl : s' = s := by omega
  rw [hI]
  exact hv
/-- the k-th one that changes the world -/
theorem fix4_eff (k : Nat) (v : Value) (hv : (g (k + 1)).2 = v) (hE : (decide (i ∈ E) && E.idxOf i == k) = true) (hw : Region.wanted o (yielded ops a.tmps) = true)
    (h : ∀ (J : Act → World → Prop), (∀ w' u, Spec i (g k).1 w' u → J (a.put o.dst u) w') → o.wp P a (g k).1 J (fun _ _ _ => False)) (hr : ∀ J : Act → Prop, (∀ a', fixRun4 P ops E Spec g K rest (i + 1) a' → J a') → J (a.put o.dst v)) : fixRun4 P ops E Spec g K (o :: rest) i a := by
  subst hv
  simp only [Bool.and_eq_true, decide_eq_true_eq, beq_iff_eq] at hE
  unfold fixRun4 fixRunG
  rw [if_pos hw]
  refine ⟨_, ?_, hr _ fun _ h => h⟩
  unfold Cl4
  rw [if_pos hE.1, hE.2]
  exact ⟨rfl, h _ fun w' u hs => ⟨u, rfl, hs⟩⟩
theorem fix4_skip (hE : decide (i ∈ E) = false) (hw : Region.wanted o (yielded ops a.tmps) = false)
    (hr : ∀ J : Act → Prop, (∀ a', fixRun4 P ops E Spec g K rest (i + 1) a' → J a') → J (a.put o.dst undef)) : fixRun4 P ops E Spec g K (o :: rest) i a := by
  unfold fixRun4 fixRunG
  rw [if_neg (by rw [hw]; decide)]
  exact ⟨by simpa using hE, hr _ fun _ h => h⟩
end
end
end Go.Proofs.Ytakefjdckacgpaa.Cod

/- Regions that draw their order, with operations that change the world one behind the other (E: their places): Inv s is what holds when s of these are done. -/
import Derived.Test.YtakefjdckacgpaaFix
import Derived.Still
namespace Go.Proofs.Ytakefjdckacgpaa.Cod
section
variable {P : Program} {ops : Array Oper}
def waitsB (o : Oper) (e : Nat) : Bool := o.after.any fun x => Region.binds .any x && x.on == e
def fixB2 (ops : Array Oper) : Bool :=
  Region.noSelect ops && (List.range ops.size).all fun i => match ops[i]? with
    | none => true
    | some o => (o.after.all fun e => !Region.binds .any e || decide (e.on < i)) && (List.range ops.size).all fun j => match ops[j]? with
      | none => true
      | some oj => match oj.dst with
        | none => true
        | some d => (i == j || o.dst != some d) && (!(o.looksAt ops).contains d || waitsB o j || (decide (i < j) && waitsB oj i))
theorem waitsB_spec {o : Oper} {e : Nat} (h : waitsB o e = true) : ∃ x ∈ o.after, Region.binds .any x = true ∧ x.on = e := by
  obtain ⟨x, hx, hb⟩ := Array.any_eq_true'.1 h
  simp only [Bool.and_eq_true, beq_iff_eq] at hb
  exact ⟨x, hx, hb.1, hb.2⟩
structure FixOk2 (ops : Array Oper) : Prop where
  sel : Region.noSelect ops = true
  low : ∀ (i : Nat) (o : Oper), ops[i]? = some o → ∀ e ∈ o.after, Region.binds .any e = true → e.on < i
  dist : ∀ (i : Nat) (o : Oper) (j : Nat) (oj : Oper) (d : Tmp), ops[i]? = some o → ops[j]? = some oj → oj.dst = some d → o.dst = some d → i = j
  look : ∀ (i : Nat) (o : Oper) (j : Nat) (oj : Oper) (d : Tmp), ops[i]? = some o → ops[j]? = some oj → oj.dst = some d → d ∈ o.looksAt ops → waitsB o j = true ∨ (i < j ∧ waitsB oj i = true)
theorem fixOk2 (h : fixB2 ops = true) : FixOk2 ops := by
  simp only [fixB2, Bool.and_eq_true, List.all_eq_true, List.mem_range] at h
  obtain ⟨hs, h⟩ := h
  have hx : ∀ (i : Nat) (o : Oper), ops[i]? = some o → i < ops.size := fun i o ho => (Array.getElem?_eq_some_iff.1 ho).1
  have hlow : ∀ (i : Nat) (o : Oper), ops[i]? = some o → ∀ e ∈ o.after, Region.binds .any e = true → e.on < i := by
    intro i o ho e he hb
    have h1 := h i (hx i o ho)
    simp only [ho, Bool.and_eq_true, Array.all_eq_true_iff_forall_mem] at h1
    have := h1.1 e he
    simpa [hb] using this
  have hj : ∀ (i : Nat) (o : Oper) (j : Nat) (oj : Oper) (d : Tmp), ops[i]? = some o → ops[j]? = some oj → oj.dst = some d → (i == j || o.dst != some d) = true ∧ (!(o.looksAt ops).contains d || waitsB o j || (decide (i < j) && waitsB oj i)) = true := by
    intro i o j oj d ho hoj hd
    have h1 := h i (hx i o ho)
    simp only [ho, Bool.and_eq_true, List.all_eq_true, List.mem_range] at h1
    have h2 := h1.2 j (hx j oj hoj)
    simp only [hoj, hd, Bool.and_eq_true] at h2
    exact h2
  refine ⟨hs, hlow, ?_, ?_⟩
  · intro i o j oj d ho hoj hd hd'
    have := (hj i o j oj d ho hoj hd).1
    simp only [Bool.or_eq_true, beq_iff_eq, bne_iff_ne, ne_eq] at this
    rcases this with h1 | h1
    · exact h1
    · exact absurd hd' h1
  · intro i o j oj d ho hoj hd hl
    have := (hj i o j oj d ho hoj hd).2
    simp only [Bool.or_eq_true, Bool.not_eq_true', List.contains_eq_mem, decide_eq_false_iff_not, Bool.and_eq_true, decide_eq_true_eq] at this
    rcases this with (h1 | h1) | h1
    · exact absurd hl h1
    · exact .inl h1
    · exact .inr h1
def chainE (ops : Array Oper) : List Nat → Bool
  | e :: e' :: r => (match ops[e']? with | some o => waitsB o e | none => false) && chainE ops (e' :: r)
  | _ => true
def loOf (E : List Nat) (o : Oper) : Nat := (E.zipIdx.map fun x => if waitsB o x.1 then x.2 + 1 else 0).foldl max 0
def stage (E : List Nat) (listed : Array Bool) : Nat := (E.filter fun e => listed.getD e false).length
/-- how many of E may be done when operation i has not run -/
def hiF (ops : Array Oper) (E : List Nat) : Nat → Nat → Nat
  | 0, _ => E.length
  | f + 1, i => if i ∈ E then E.idxOf i else (((List.range ops.size).filter fun j => match ops[j]? with | some oj => waitsB oj i | none => false).map (hiF ops E f)).foldl min E.length
/-- the operations in the order of the text: i the place of the next one, k how many of E are done -/
def fixRun2 (P : Program) (ops : Array Oper) (E : List Nat) (Inv : Nat → World → Prop) (K : Act → Prop) : List Oper → Nat → Act → Prop
  | [], _, a => K a
  | o :: rest, i, a =>
    if Region.wanted o (yielded ops a.tmps) then
      ∃ v, (if i ∈ E then ∀ w, Inv (E.idxOf i) w → o.wp P a w (fun a' w' => a' = a.put o.dst v ∧ Inv (E.idxOf i + 1) w') (fun _ _ _ => False) else ∀ s, loOf E o ≤ s → s ≤ hiF ops E ops.size i → FixOp P (Inv s) a o v) ∧ fixRun2 P ops E Inv K rest (i + 1) (a.put o.dst v)
    else (i ∈ E → ∀ w, Inv (E.idxOf i) w → Inv (E.idxOf i + 1) w) ∧ fixRun2 P ops E Inv K rest (i + 1) (a.put o.dst undef)
/-- what an operation does at the frame A that stands before it in the text; F: the last frame -/
def Fixed2 (P : Program) (ops : Array Oper) (E : List Nat) (Inv : Nat → World → Prop) (F A : Act) (i : Nat) (o : Oper) : Prop :=
  (Region.wanted o (yielded ops A.tmps) = true → ∃ v, (if i ∈ E then ∀ w, Inv (E.idxOf i) w → o.wp P A w (fun a' w' => a' = A.put o.dst v ∧ Inv (E.idxOf i + 1) w') (fun _ _ _ => False) else ∀ s, loOf E o ≤ s → s ≤ hiF ops E ops.size i → FixOp P (Inv s) A o v) ∧ F.put o.dst v = F) ∧
  (Region.wanted o (yielded ops A.tmps) = false → (i ∈ E → ∀ w, Inv (E.idxOf i) w → Inv (E.idxOf i + 1) w) ∧ F.put o.dst undef = F)
/-- the frame before operation j: what the operations from k on before it put is as at the end, all else as in a -/
structure Before (ops : Array Oper) (k j : Nat) (a F A : Act) : Prop where
  size : A.tmps.size = F.tmps.size
  put : ∀ (t : Nat) (i : Nat) (o : Oper), k ≤ i → i < j → ops[i]? = some o → o.dst = some t → A.tmps[t]? = F.tmps[t]?
  old : ∀ t : Nat, (∀ (i : Nat) (o : Oper), k ≤ i → i < j → ops[i]? = some o → o.dst ≠ some t) → A.tmps[t]? = a.tmps[t]?
theorem wp_at2 {J : World → Prop} {a b : Act} {o : Oper} {v : Value} {w : World} (h1 : o.wp P a w (fun a' w' => a' = a.put o.dst v ∧ J w') (fun _ _ _ => False)) (he : execOp b.eval o = execOp a.eval o) (hs : a.tmps.size = b.tmps.size) {Q : Exit → Act → World → Prop} :
    o.wp P b w (fun a' w' => a' = b.put o.dst v ∧ J w') Q := by
  unfold Oper.wp at *
  rw [he]
  generalize (execOp a.eval o).run P w = r at *
  cases r with
  | ok n w' =>
    cases n <;> simp only [Oper.upon] at h1 ⊢
    case value u => exact ⟨put_same hs h1.1, h1.2⟩
    case skip => exact ⟨put_same hs h1.1, h1.2⟩
    case defer d => exact (put_defers_ne h1.1).elim
    case enter f args =>
      refine Calls.mono h1 fun e w'' he => ?_
      cases e with
      | returned u => exact ⟨put_same hs he.1, he.2⟩
      | panicked c => exact he.elim
      | outgrown => exact (letsOut_false he).elim
    case row row args => exact Rows.mono h1 fun u w'' he => ⟨put_same hs he.1, he.2⟩
  | halt x w' => cases x <;> simp only [Oper.upon] at h1
theorem fix_all2 {E : List Nat} {Inv : Nat → World → Prop} {K : Act → Prop} (ok : FixOk2 ops) : ∀ (l : List Oper) (k : Nat) (a : Act), (∀ j, l[j]? = ops[k + j]?) → fixRun2 P ops E Inv K l k a →
    ∃ F : Act, K F ∧ F.tmps.size = a.tmps.size ∧ F.defers = a.defers ∧ (∀ t : Nat, (∀ (j : Nat) (o : Oper), k ≤ j → ops[j]? = some o → o.dst ≠ some t) → F.tmps[t]? = a.tmps[t]?) ∧ ∀ (j : Nat) (o : Oper), k ≤ j → ops[j]? = some o → ∃ A, Before ops k j a F A ∧ Fixed2 P ops E Inv F A j o
  | [], k, a, hl, h => ⟨a, h, rfl, rfl, fun _ _ => rfl, fun j o hj ho => by
      have := hl (j - k)
      rw [show k + (j - k) = j by omega, ho] at this
      simp at this⟩
  | o :: l, k, a, hl, h => by
    have h0 : ops[k]? = some o := by simpa using (hl 0).symm
    have hl' : ∀ j, l[j]? = ops[k + 1 + j]? := fun j => by have := hl (j + 1); simpa [Nat.add_assoc, Nat.add_comm 1 j] using this
    have key : ∀ v, fixRun2 P ops E Inv K l (k + 1) (a.put o.dst v) → (Region.wanted o (yielded ops a.tmps) = true → if k ∈ E then ∀ w, Inv (E.idxOf k) w → o.wp P a w (fun a' w' => a' = a.put o.dst v ∧ Inv (E.idxOf k + 1) w') (fun _ _ _ => False) else ∀ s, loOf E o ≤ s → s ≤ hiF ops E ops.size k → FixOp P (Inv s) a o v) →
        (Region.wanted o (yielded ops a.tmps) = false → v = undef ∧ (k ∈ E → ∀ w, Inv (E.idxOf k) w → Inv (E.idxOf k + 1) w)) →
        ∃ F : Act, K F ∧ F.tmps.size = a.tmps.size ∧ F.defers = a.defers ∧ (∀ t : Nat, (∀ (j : Nat) (o : Oper), k ≤ j → ops[j]? = some o → o.dst ≠ some t) → F.tmps[t]? = a.tmps[t]?) ∧ ∀ (j : Nat) (o : Oper), k ≤ j → ops[j]? = some o → ∃ A, Before ops k j a F A ∧ Fixed2 P ops E Inv F A j o := by
      intro v hr hv hu
      obtain ⟨F, hK, hsz, hdf, hout, hfx⟩ := fix_all2 ok l (k + 1) _ hl' hr
      rw [put_size] at hsz
      rw [put_def] at hdf
      have hlate : ∀ t, o.dst = some t → F.tmps[t]? = (a.put o.dst v).tmps[t]? := fun t ht => hout t fun j oj hj hoj hd => by
        have := ok.dist k o j oj t h0 hoj hd ht
        omega
      have hfix : F.put o.dst v = F := put_fixed (by rw [put_size]; exact hsz) hlate
      refine ⟨F, hK, hsz, hdf, ?_, ?_⟩
      · intro t ht
        rw [hout t (fun j oj hj hoj => ht j oj (by omega) hoj), put_get_ne _ _ _ (ht k o (Nat.le_refl _) h0)]
      · intro j oj hj hoj
        by_cases hjk : j = k
        · subst hjk
          obtain rfl : oj = o := Option.some.inj (hoj.symm.trans h0)
          refine ⟨a, ⟨hsz.symm, fun t i o h1 h2 => by omega, fun _ _ => rfl⟩, fun hw => ⟨v, hv hw, hfix⟩, fun hw => ?_⟩
          obtain ⟨rfl, h2⟩ := hu hw
          exact ⟨h2, hfix⟩
        · obtain ⟨A, hA, hF⟩ := hfx j oj (by omega) hoj
          refine ⟨A, ⟨hA.size, ?_, ?_⟩, hF⟩
          · intro t i oi h1 h2 hoi hd
            by_cases hik : i = k
            · subst hik
              obtain rfl : oi = o := Option.some.inj (hoi.symm.trans h0)
              have hno : ∀ (i' : Nat) (o' : Oper), i + 1 ≤ i' → i' < j → ops[i']? = some o' → o'.dst ≠ some t := by
                intro i' o' h3 _ ho' hd'
                have := ok.dist i oi i' o' t h0 ho' hd' hd
                omega
              rw [hA.old t hno, hlate t hd]
            · exact hA.put t i oi (by omega) h2 hoi hd
          · intro t ht
            rw [hA.old t (fun i o' h1 h2 ho' => ht i o' (by omega) h2 ho'), put_get_ne _ _ _ (ht k o (Nat.le_refl _) (by omega) h0)]
    unfold fixRun2 at h
    by_cases hw : Region.wanted o (yielded ops a.tmps) = true
    · rw [if_pos hw] at h
      obtain ⟨v, hv, hr⟩ := h
      exact key v hr (fun _ => hv) (fun e => by rw [hw] at e; cases e)
    · rw [if_neg hw] at h
      exact key undef h.2 (fun e => absurd e hw) (fun _ => ⟨rfl, h.1⟩)
def Closed (ops : Array Oper) (listed : Array Bool) : Prop := ∀ (j : Nat) (o : Oper), ops[j]? = some o → listed.getD j false = true → ∀ e ∈ o.after, Region.binds .any e = true → listed.getD e.on false = true
/-- of a chain that is closed just a beginning is listed -/
theorem chain_pre {listed : Array Bool} (hc : Closed ops listed) : ∀ (E : List Nat), chainE ops E = true → ∃ s, s ≤ E.length ∧ (∀ e ∈ E.take s, listed.getD e false = true) ∧ (∀ e ∈ E.drop s, listed.getD e false = false)
  | [], _ => ⟨0, by simp, by simp, by simp⟩
  | [e], _ => by
    cases h : listed.getD e false with
    | true => exact ⟨1, by simp, by simpa using h, by simp⟩
    | false => exact ⟨0, by simp, by simp, by simpa using h⟩
  | e :: e' :: r, hE => by
    simp only [chainE, Bool.and_eq_true] at hE
    obtain ⟨s, hs, h1, h2⟩ := chain_pre hc (e' :: r) hE.2
    cases h : listed.getD e false with
    | true =>
      refine ⟨s + 1, by simpa using hs, ?_, by simpa using h2⟩
      intro x hx
      rw [List.take_succ_cons, List.mem_cons] at hx
      rcases hx with rfl | hx
      · exact h
      · exact h1 x hx
    | false =>
      have hs0 : s = 0 := by
        rcases s with _ | s
        · rfl
        · exfalso
          have h3 := h1 e' (by simp)
          cases ho : ops[e']? with
          | none => simp [ho] at hE
          | some o =>
            simp only [ho] at hE
            obtain ⟨x, hx, hb, hon⟩ := waitsB_spec hE.1
            have h4 := hc e' o ho h3 x hx hb
            rw [hon, h] at h4
            cases h4
      subst hs0
      refine ⟨0, by simp, by simp, ?_⟩
      intro x hx
      rw [List.drop_zero, List.mem_cons] at hx
      rcases hx with rfl | hx
      · exact h
      · exact h2 x (by simpa using hx)
theorem stage_pre {listed : Array Bool} {E : List Nat} {s : Nat} (hs : s ≤ E.length) (h1 : ∀ e ∈ E.take s, listed.getD e false = true) (h2 : ∀ e ∈ E.drop s, listed.getD e false = false) : stage E listed = s := by
  unfold stage
  have e : E = E.take s ++ E.drop s := (List.take_append_drop s E).symm
  rw [e, List.filter_append, List.filter_eq_self.2 h1, List.filter_eq_nil_iff.2 (fun x hx => by rw [h2 x hx]; decide)]
  simp; omega
def OnWay2 (ops : Array Oper) (E : List Nat) (Inv : Nat → World → Prop) (a0 F : Act) (listed : Array Bool) (a : Act) (w : World) : Prop :=
  Inv (stage E listed) w ∧ Closed ops listed ∧ listed.size = ops.size ∧ a.tmps.size = F.tmps.size ∧ a.defers = F.defers ∧
    (∀ (t : Nat) (j : Nat) (o : Oper), ops[j]? = some o → o.dst = some t → listed.getD j false = true → a.tmps[t]? = F.tmps[t]?) ∧
    ∀ t : Nat, (∀ (j : Nat) (o : Oper), ops[j]? = some o → o.dst = some t → listed.getD j false = false) → a.tmps[t]? = a0.tmps[t]?
theorem loOf_le {E : List Nat} {o : Oper} {s : Nat} (h : ∀ (j e : Nat), E[j]? = some e → waitsB o e = true → j + 1 ≤ s) : loOf E o ≤ s := by
  unfold loOf
  have hall : ∀ x ∈ (E.zipIdx.map fun x => if waitsB o x.1 then x.2 + 1 else 0), x ≤ s := by
    intro x hx
    obtain ⟨⟨e, j⟩, hm, rfl⟩ := List.mem_map.1 hx
    have hj := List.mem_zipIdx_iff_getElem?.1 hm
    simp only
    split
    · rename_i hw; exact h j e hj hw
    · exact Nat.zero_le _
  have hf : ∀ (l : List Nat) (b : Nat), b ≤ s → (∀ x ∈ l, x ≤ s) → l.foldl max b ≤ s := by
    intro l
    induction l with
    | nil => intro b hb _; exact hb
    | cons y l ih => intro b hb hl; exact ih _ (Nat.max_le.2 ⟨hb, hl y (by simp)⟩) (fun x hx => hl x (by simp [hx]))
  exact hf _ 0 (Nat.zero_le _) hall
theorem foldl_min {s : Nat} : ∀ (l : List Nat) (b : Nat), s ≤ b → (∀ x ∈ l, s ≤ x) → s ≤ l.foldl min b
  | [], _, hb, _ => hb
  | y :: l, b, hb, hl => foldl_min l _ (Nat.le_min.2 ⟨hb, hl y (by simp)⟩) (fun x hx => hl x (by simp [hx]))
theorem hiF_le {listed : Array Bool} {E : List Nat} (hcl : Closed ops listed) (hch : chainE ops E = true) : ∀ (f i : Nat), listed.getD i false = false → stage E listed ≤ hiF ops E f i := by
  obtain ⟨s, hs, hs1, hs2⟩ := chain_pre hcl E hch
  have hst := stage_pre hs hs1 hs2
  rw [hst]
  intro f
  induction f with
  | zero => intro i _; exact hs
  | succ f ih =>
    intro i hun
    unfold hiF
    split
    · rename_i hE
      have hk : E.idxOf i < E.length := List.idxOf_lt_length_iff.2 hE
      rcases Nat.lt_or_ge (E.idxOf i) s with h1 | h1
      · exfalso
        have hm : i ∈ E.take s := List.mem_take_iff_getElem.2 ⟨E.idxOf i, by omega, List.getElem_idxOf hk⟩
        rw [hs1 i hm] at hun
        cases hun
      · exact h1
    · refine foldl_min _ _ hs fun x hx => ?_
      obtain ⟨j, hj, rfl⟩ := List.mem_map.1 hx
      refine ih j ?_
      have hj2 := (List.mem_filter.1 hj).2
      cases hl : listed.getD j false with
      | false => rfl
      | true =>
        cases hoj : ops[j]? with
        | none => rw [hoj] at hj2; cases hj2
        | some oj =>
          simp only [hoj] at hj2
          obtain ⟨e, he, hb, hon⟩ := waitsB_spec hj2
          have := hcl j oj hoj hl e he hb
          rw [hon, hun] at this
          cases this
theorem onWay2_step {E : List Nat} {Inv : Nat → World → Prop} {a0 F : Act} (ok : FixOk2 ops) (hch : chainE ops E = true) (hnd : E.Nodup) (hfx : ∀ (j : Nat) (o : Oper), ops[j]? = some o → ∃ A, Before ops 0 j a0 F A ∧ Fixed2 P ops E Inv F A j o) {Q : Exit → Act → World → Prop} {listed : Array Bool} {a : Act} {w : World} (h : OnWay2 ops E Inv a0 F listed a w) {i : Nat} (hi : i ∈ Region.ready .any ops listed) :
    wpOp P ops Q i (OnWay2 ops E Inv a0 F (listed.setIfInBounds i true)) a w := by
  obtain ⟨hI, hcl, hls, hsz, hdf, hnew, hold⟩ := h
  obtain ⟨hun0, o, ho, hready⟩ := mem_ready.1 hi
  have hilt := (Array.getElem?_eq_some_iff.1 ho).1
  have hun : listed.getD i false = false := by
    have hi' : i < listed.size := by omega
    simp [hi'] at hun0 ⊢; exact hun0
  obtain ⟨A, hA, hFA⟩ := hfx i o ho
  have hlook : ∀ t ∈ o.looksAt ops, a.tmps[t]? = A.tmps[t]? := by
    intro t ht
    by_cases hw : ∃ (j : Nat) (oj : Oper), ops[j]? = some oj ∧ oj.dst = some t
    · obtain ⟨j, oj, hoj, hd⟩ := hw
      rcases ok.look i o j oj t ho hoj hd ht with h1 | ⟨hij, h1⟩
      · obtain ⟨e, he, hb, hon⟩ := waitsB_spec h1
        have hl := hready e he hb
        rw [hon] at hl
        have hji := ok.low i o ho e he hb
        rw [hnew t j oj hoj hd hl, hA.put t j oj (Nat.zero_le _) (by omega) hoj hd]
      · obtain ⟨e, he, hb, hon⟩ := waitsB_spec h1
        have hjun : listed.getD j false = false := by
          cases hl : listed.getD j false with
          | false => rfl
          | true =>
            have := hcl j oj hoj hl e he hb
            rw [hon, hun] at this
            cases this
        have honly : ∀ (j' : Nat) (o' : Oper), ops[j']? = some o' → o'.dst = some t → j' = j := fun j' o' ho' hd' => ok.dist j' o' j oj t ho' hoj hd hd'
        rw [hold t fun j' o' ho' hd' => by rw [honly j' o' ho' hd']; exact hjun, hA.old t fun i' o' _ h2 ho' hd' => by
          have := honly i' o' ho' hd'
          omega]
    · rw [hold t fun j o' ho' hd' => absurd ⟨j, o', ho', hd'⟩ hw, hA.old t fun i' o' _ _ ho' hd' => hw ⟨i', o', ho', hd'⟩]
  have hex := exec_same ok.sel ho hlook
  have hwa := wanted_same hlook
  obtain ⟨s, hs, hs1, hs2⟩ := chain_pre hcl E hch
  have hst := stage_pre hs hs1 hs2
  have hcl' : Closed ops (listed.setIfInBounds i true) := by
    intro j oj hoj hl e he hb
    by_cases hij : i = j
    · subst hij
      obtain rfl : oj = o := Option.some.inj (hoj.symm.trans ho)
      exact getD_set_true (hready e he hb)
    · rw [getD_set_ne false hij] at hl
      exact getD_set_true (hcl j oj hoj hl e he hb)
  have hset : (listed.setIfInBounds i true).getD i false = true := by
    have hi' : i < listed.size := by omega
    simp [hi']
  have hnext : ∀ v, F.put o.dst v = F → ∀ w', Inv (stage E (listed.setIfInBounds i true)) w' → OnWay2 ops E Inv a0 F (listed.setIfInBounds i true) (a.put o.dst v) w' := by
    intro v hv w' hI'
    refine ⟨hI', hcl', by simpa using hls, by rw [put_size]; exact hsz, by rw [put_def]; exact hdf, fun t j oj hoj hd hl => ?_, fun t ht => ?_⟩
    · by_cases htd : o.dst = some t
      · rw [htd] at hv ⊢
        rw [← congrArg (fun x : Act => x.tmps[t]?) hv]
        simp only [Act.put, Array.getElem?_setIfInBounds, hsz]
        by_cases hb : t < F.tmps.size
        · simp [hb]
        · simp [hb]
      · rw [put_get_ne _ _ _ htd]
        have hij : i ≠ j := by
          rintro rfl
          obtain rfl : oj = o := Option.some.inj (hoj.symm.trans ho)
          exact htd hd
        rw [getD_set_ne false hij] at hl
        exact hnew t j oj hoj hd hl
    · have htd : o.dst ≠ some t := fun hd => by
        have := ht i o ho hd
        rw [hset] at this
        cases this
      rw [put_get_ne _ _ _ htd]
      refine hold t fun j oj hoj hd => ?_
      have hij : i ≠ j := by
        rintro rfl
        obtain rfl : oj = o := Option.some.inj (hoj.symm.trans ho)
        exact htd hd
      have := ht j oj hoj hd
      rwa [getD_set_ne false hij] at this
  have hstep : if i ∈ E then stage E listed = E.idxOf i ∧ stage E (listed.setIfInBounds i true) = E.idxOf i + 1 else stage E (listed.setIfInBounds i true) = stage E listed := by
    split
    · rename_i hE
      have hk : E.idxOf i < E.length := List.idxOf_lt_length_iff.2 hE
      have hg : E[E.idxOf i] = i := List.getElem_idxOf hk
      have hsi : s = E.idxOf i := by
        rcases Nat.lt_trichotomy s (E.idxOf i) with hlt | heq | hgt
        · exfalso
          -- i waits for E[s], which is not listed
          have hprev : ∀ d, d ≤ E.idxOf i - s → ∀ (hb : E.idxOf i - d < E.length), listed.getD (E[E.idxOf i - d]) false = false := by
            intro d hd hb
            have hm : E[E.idxOf i - d] ∈ E.drop s := by
              rw [List.mem_drop_iff_getElem]
              exact ⟨E.idxOf i - d - s, by omega, by congr 1; omega⟩
            exact hs2 _ hm
          have hp := hprev 1 (by omega) (by omega)
          have hpair : ∀ (l : List Nat), chainE ops l = true → ∀ (j : Nat) (hj : j + 1 < l.length), ∃ o, ops[l[j + 1]]? = some o ∧ waitsB o l[j] = true := by
            intro l
            induction l with
            | nil => intro _ j hj; simp at hj
            | cons x l ih =>
              intro hl j hj
              cases l with
              | nil => simp at hj
              | cons y r =>
                simp only [chainE, Bool.and_eq_true] at hl
                cases j with
                | zero =>
                  cases hoy : ops[y]? with
                  | none => simp [hoy] at hl
                  | some oy => simp only [hoy] at hl; exact ⟨oy, by simpa using hoy, by simpa using hl.1⟩
                | succ j => exact ih hl.2 j (by simpa using hj)
          obtain ⟨o', ho', hw'⟩ := hpair E hch (E.idxOf i - 1) (by omega)
          have hidx : E[E.idxOf i - 1 + 1]'(by omega) = i := by
            have : E.idxOf i - 1 + 1 = E.idxOf i := by omega
            simp only [this, hg]
          rw [hidx] at ho'
          obtain rfl : o' = o := Option.some.inj (ho'.symm.trans ho)
          obtain ⟨x, hx, hb, hon⟩ := waitsB_spec hw'
          have := hready x hx hb
          rw [hon, hp] at this
          cases this
        · exact heq
        · exfalso
          have hm : i ∈ E.take s := by
            rw [List.mem_take_iff_getElem]
            exact ⟨E.idxOf i, by omega, hg⟩
          rw [hs1 i hm] at hun
          cases hun
      refine ⟨hst.trans hsi, ?_⟩
      rw [← hsi]
      refine stage_pre (by omega) ?_ ?_
      · intro e he
        rw [List.take_add_one, List.mem_append] at he
        rcases he with he | he
        · exact getD_set_true (hs1 e he)
        · rw [hsi, List.getElem?_eq_getElem hk, hg] at he
          simp at he
          rw [he]; exact hset
      · intro e he
        have hne : i ≠ e := by
          rintro rfl
          obtain ⟨j, hj, hje⟩ := List.mem_drop_iff_getElem.1 he
          have h3 : E[s + 1 + j]'(by omega) = E[E.idxOf i] := by rw [hg]; simpa [Nat.add_comm] using hje
          exact (List.pairwise_iff_getElem.1 hnd (E.idxOf i) (s + 1 + j) hk (by omega) (by omega)) h3.symm
        rw [getD_set_ne false hne]
        refine hs2 e ?_
        obtain ⟨j, hj, hje⟩ := List.mem_drop_iff_getElem.1 he
        exact List.mem_drop_iff_getElem.2 ⟨j + 1, by omega, by rw [← hje]; congr 1; omega⟩
    · rename_i hE
      unfold stage
      congr 1
      refine List.filter_congr fun e he => ?_
      have hne : i ≠ e := fun h => hE (h ▸ he)
      rw [getD_set_ne false hne]
  have hlo : i ∉ E → loOf E o ≤ stage E listed := by
    intro _
    refine loOf_le fun j e hj hw => ?_
    obtain ⟨x, hx, hb, hon⟩ := waitsB_spec hw
    have hl := hready x hx hb
    rw [hon] at hl
    rcases Nat.lt_or_ge j s with h1 | h1
    · rw [hst]; omega
    · exfalso
      obtain ⟨hjl, hje⟩ := List.getElem?_eq_some_iff.1 hj
      have hm : e ∈ E.drop s := List.mem_drop_iff_getElem.2 ⟨j - s, by omega, by rw [← hje]; congr 1; omega⟩
      rw [hs2 e hm] at hl
      cases hl
  unfold wpOp
  simp only [ho]
  by_cases hw : Region.wanted o (yielded ops a.tmps) = true
  · rw [if_pos hw]
    rw [hwa] at hw
    obtain ⟨v, hv, hF⟩ := hFA.1 hw
    by_cases hE : i ∈ E
    · rw [if_pos hE] at hv hstep
      have h1 := hv w (by rw [← hstep.1]; exact hI)
      refine .inl (Oper.wp_mono (fun a' w' h => ?_) (wp_at2 h1 hex (hA.size.trans hsz.symm)))
      rw [h.1]
      exact hnext v hF w' (by rw [hstep.2]; exact h.2)
    · rw [if_neg hE] at hv hstep
      refine .inl (Oper.wp_mono (fun a' w' h => ?_) ((hv _ (hlo hE) (hiF_le hcl hch _ i hun)).at_ hex (hA.size.trans hsz.symm) w hI))
      rw [h.1]
      exact hnext v hF w' (by rw [hstep]; exact h.2)
  · rw [if_neg hw]
    rw [hwa] at hw
    obtain ⟨h2, hF⟩ := hFA.2 (by simpa using hw)
    refine hnext undef hF w ?_
    by_cases hE : i ∈ E
    · rw [if_pos hE] at hstep
      rw [hstep.2]
      exact h2 hE w (by rw [← hstep.1]; exact hI)
    · rw [if_neg hE] at hstep
      rw [hstep]; exact hI
theorem all_listed2 (ok : FixOk2 ops) {listed : Array Bool} (hr : Region.ready .any ops listed = []) (hsz : listed.size = ops.size) : ∀ i, i < ops.size → listed.getD i false = true := by
  intro i
  induction i using Nat.strongRecOn with
  | _ i ih =>
    intro hi
    cases hl : listed.getD i false with
    | true => rfl
    | false =>
      have hm : i ∈ Region.ready .any ops listed := by
        refine mem_ready.2 ⟨?_, ops[i], Array.getElem?_eq_getElem hi, fun e he hb => ?_⟩
        · have hi' : i < listed.size := by omega
          simp [hi'] at hl ⊢
          exact hl
        · have hlt := ok.low i _ (Array.getElem?_eq_getElem hi) e he hb
          exact ih e.on hlt (by omega)
      rw [hr] at hm
      cases hm
theorem onWay2_any {E : List Nat} {Inv : Nat → World → Prop} {a0 F : Act} (ok : FixOk2 ops) (hch : chainE ops E = true) (hnd : E.Nodup) (hEb : ∀ e ∈ E, e < ops.size) (hF0 : ∀ t : Nat, (∀ (j : Nat) (o : Oper), ops[j]? = some o → o.dst ≠ some t) → F.tmps[t]? = a0.tmps[t]?) (hfx : ∀ (j : Nat) (o : Oper), ops[j]? = some o → ∃ A, Before ops 0 j a0 F A ∧ Fixed2 P ops E Inv F A j o) {Q : Exit → Act → World → Prop} (hQ : ∀ w, Inv E.length w → Q .normal F w) :
    ∀ (fuel : Nat) (listed : Array Bool) (a : Act) (w : World), ((List.range ops.size).filter fun i => !listed.getD i true).length ≤ fuel → OnWay2 ops E Inv a0 F listed a w → wpAny P .any ops Q fuel listed a w := by
  have fin : ∀ (listed : Array Bool) (a : Act) (w : World), Region.ready .any ops listed = [] → OnWay2 ops E Inv a0 F listed a w → Q .normal a w := by
    intro listed a w hr h
    have hl := all_listed2 ok hr h.2.2.1
    have hA : a = F := act_ext h.2.2.2.2.1 fun t => by
      by_cases hw : ∃ (j : Nat) (o : Oper), ops[j]? = some o ∧ o.dst = some t
      · obtain ⟨j, o, ho, hd⟩ := hw
        exact h.2.2.2.2.2.1 t j o ho hd (hl j (Array.getElem?_eq_some_iff.1 ho).1)
      · rw [h.2.2.2.2.2.2 t fun j o ho hd => absurd ⟨j, o, ho, hd⟩ hw, hF0 t fun j o ho hd => hw ⟨j, o, ho, hd⟩]
    have hS : stage E listed = E.length := by
      unfold stage
      rw [List.filter_eq_self.2 fun e he => hl e (hEb e he)]
    rw [hA]
    exact hQ w (by rw [← hS]; exact h.1)
  intro fuel
  induction fuel with
  | zero =>
    intro listed a w hc h
    have hr : Region.ready .any ops listed = [] := by
      cases hq : Region.ready .any ops listed with
      | nil => rfl
      | cons i l =>
        have hm : i ∈ Region.ready .any ops listed := by rw [hq]; simp
        obtain ⟨h0, o, ho, _⟩ := mem_ready.1 hm
        have : i ∈ (List.range ops.size).filter fun i => !listed.getD i true := List.mem_filter.2 ⟨List.mem_range.2 (Array.getElem?_eq_some_iff.1 ho).1, by simpa using h0⟩
        rw [List.eq_nil_of_length_eq_zero (Nat.le_zero.1 hc)] at this
        cases this
    exact ⟨hr, fin listed a w hr h⟩
  | succ fuel ih =>
    intro listed a w hc h
    refine ⟨fun hr => fin listed a w hr h, fun i hi => ?_⟩
    refine wpOp_mono (fun a' w' h' => ih (listed.setIfInBounds i true) a' w' ?_ h') (onWay2_step ok hch hnd hfx h hi)
    obtain ⟨h0, o, ho, _⟩ := mem_ready.1 hi
    have hilt := (Array.getElem?_eq_some_iff.1 ho).1
    have hls := h.2.2.1
    have hsub : ∀ (l : List Nat), l.Nodup → i ∈ l → (l.filter fun j => !(listed.setIfInBounds i true).getD j true).length < (l.filter fun j => !listed.getD j true).length := by
      intro l
      induction l with
      | nil => intro _ h; cases h
      | cons x l ihl =>
        intro hn hm
        rw [List.nodup_cons] at hn
        by_cases hx : x = i
        · subst hx
          have hrest : (l.filter fun j => !(listed.setIfInBounds x true).getD j true) = l.filter fun j => !listed.getD j true := by
            refine List.filter_congr fun j hj => ?_
            have hne : x ≠ j := fun e => hn.1 (e ▸ hj)
            rw [getD_set_ne true hne]
          have hxl : x < listed.size := by omega
          have h1 : (listed.setIfInBounds x true).getD x true = true := by simp [hxl]
          rw [List.filter_cons, List.filter_cons, hrest, h1, h0]
          simp
        · have hm' : i ∈ l := by
            rcases List.mem_cons.1 hm with e | e
            · exact absurd e.symm hx
            · exact e
          have := ihl hn.2 hm'
          rw [List.filter_cons, List.filter_cons, getD_set_ne true (Ne.symm hx)]
          split
          · simpa using this
          · exact this
    have := hsub (List.range ops.size) List.nodup_range (List.mem_range.2 hilt)
    omega
/-- THE RULE: E the places of the operations that change the world -/
theorem region_fix2 {id : Nat} {l : List Oper} {Q : Exit → Act → World → Prop} {a : Act} {w : World} (E : List Nat) (Inv : Nat → World → Prop) (hm : P.follows .mixedOrders = true) (hB : (fixB2 l.toArray && chainE l.toArray E && decide (E.Nodup) && E.all (fun e => decide (e < l.toArray.size))) = true) (h0 : Inv 0 w.drew)
    (h : fixRun2 P l.toArray E Inv (fun a' => ∀ w', Inv E.length w' → Q .normal a' w') l 0 a) : (Code.region id l.toArray true).wp P Q a w := by
  simp only [Bool.and_eq_true, decide_eq_true_eq, List.all_eq_true] at hB
  obtain ⟨⟨⟨hfix, hch⟩, hnd⟩, hEb⟩ := hB
  have ok := fixOk2 hfix
  obtain ⟨F, hK, hsz, hdf, hout, hfx⟩ := fix_all2 ok l 0 a (by simp) h
  have hrep : ∀ j : Nat, (Array.replicate l.toArray.size false).getD j false = false := by
    intro j
    rw [Array.getD_eq_getD_getElem?, Array.getElem?_replicate]
    split <;> rfl
  have hst0 : stage E (Array.replicate l.toArray.size false) = 0 := by
    unfold stage
    rw [List.filter_eq_nil_iff.2 (fun e _ => by rw [hrep]; decide)]
    rfl
  refine wp_region_any hm (onWay2_any (a0 := a) ok hch hnd hEb (fun t ht => hout t fun j o _ ho => ht j o ho) (fun j o ho => hfx j o (Nat.zero_le _) ho) hK _ _ a _ ?_ ⟨by rw [hst0]; exact h0, ?_, by simp, hsz.symm, hdf.symm, ?_, fun _ _ => rfl⟩)
  · refine Nat.le_trans (List.length_filter_le _ _) (by simp)
  · intro j o _ hl
    rw [hrep] at hl
    cases hl
  · intro t j o _ _ hl
    rw [hrep] at hl
    cases hl
theorem fix2_nil {E : List Nat} {Inv : Nat → World → Prop} {K : Act → Prop} {a : Act} {i : Nat} (h : K a) : fixRun2 P ops E Inv K [] i a := h
/-- an operation that changes nothing that counts -/
theorem fix2_step {E : List Nat} {Inv : Nat → World → Prop} {K : Act → Prop} {a : Act} {o : Oper} {rest : List Oper} {i : Nat} (v : Value) (hE : decide (i ∈ E) = false) (hw : Region.wanted o (yielded ops a.tmps) = true)
    (h : ∀ (J : Act → World → Prop) (s : Nat), loOf E o ≤ s → (∀ w, Inv s w → J (a.put o.dst v) w) → ∀ w, Inv s w → o.wp P a w J (fun _ _ _ => False)) (hr : fixRun2 P ops E Inv K rest (i + 1) (a.put o.dst v)) : fixRun2 P ops E Inv K (o :: rest) i a := by
  unfold fixRun2
  rw [if_pos hw]
  refine ⟨v, ?_, hr⟩
  rw [if_neg (by simpa using hE)]
  exact fun s hs _ w hI => h _ s hs (fun _ h => ⟨rfl, h⟩) w hI
/-- an operation that runs before the first of E -/
theorem fix2_first {E : List Nat} {Inv : Nat → World → Prop} {K : Act → Prop} {a : Act} {o : Oper} {rest : List Oper} {i : Nat} (v : Value) (hE : (!decide (i ∈ E) && decide (hiF ops E ops.size i ≤ 0)) = true) (hw : Region.wanted o (yielded ops a.tmps) = true)
    (h : ∀ (J : Act → World → Prop), (∀ w, Inv 0 w → J (a.put o.dst v) w) → ∀ w, Inv 0 w → o.wp P a w J (fun _ _ _ => False)) (hr : fixRun2 P ops E Inv K rest (i + 1) (a.put o.dst v)) : fixRun2 P ops E Inv K (o :: rest) i a := by
  simp only [Bool.and_eq_true, Bool.not_eq_true', decide_eq_false_iff_not, decide_eq_true_eq] at hE
  unfold fixRun2
  rw [if_pos hw]
  refine ⟨v, ?_, hr⟩
  rw [if_neg hE.1]
  intro s _ hs w hI
  obtain rfl : s = 0 := by omega
  exact h _ (fun _ h => ⟨rfl, h⟩) w hI
/-- an operation that runs when at least lo and at most hi of E are done -/
theorem fix2_mid {E : List Nat} {Inv : Nat → World → Prop} {K : Act → Prop} {a : Act} {o : Oper} {rest : List Oper} {i : Nat} (v : Value) (lo hi : Nat) (hE : (!decide (i ∈ E) && decide (hiF ops E ops.size i ≤ hi) && decide (lo ≤ loOf E o)) = true) (hw : Region.wanted o (yielded ops a.tmps) = true)
    (h : ∀ (J : Act → World → Prop) (s : Nat), lo ≤ s → s ≤ hi → (∀ w, Inv s w → J (a.put o.dst v) w) → ∀ w, Inv s w → o.wp P a w J (fun _ _ _ => False)) (hr : fixRun2 P ops E Inv K rest (i + 1) (a.put o.dst v)) : fixRun2 P ops E Inv K (o :: rest) i a := by
  simp only [Bool.and_eq_true, Bool.not_eq_true', decide_eq_false_iff_not, decide_eq_true_eq] at hE
  unfold fixRun2
  rw [if_pos hw]
  refine ⟨v, ?_, hr⟩
  rw [if_neg hE.1.1]
  intro s hs1 hs2 w hI
  exact h _ s (by omega) (by omega) (fun _ h => ⟨rfl, h⟩) w hI
/-- one of E -/
theorem fix2_eff {E : List Nat} {Inv : Nat → World → Prop} {K : Act → Prop} {a : Act} {o : Oper} {rest : List Oper} {i : Nat} (v : Value) (k : Nat) (hE : (decide (i ∈ E) && E.idxOf i == k) = true) (hw : Region.wanted o (yielded ops a.tmps) = true)
    (h : ∀ (J : Act → World → Prop), (∀ w, Inv (k + 1) w → J (a.put o.dst v) w) → ∀ w, Inv k w → o.wp P a w J (fun _ _ _ => False)) (hr : fixRun2 P ops E Inv K rest (i + 1) (a.put o.dst v)) : fixRun2 P ops E Inv K (o :: rest) i a := by
  simp only [Bool.and_eq_true, decide_eq_true_eq, beq_iff_eq] at hE
  unfold fixRun2
  rw [if_pos hw]
  refine ⟨v, ?_, hr⟩
  rw [if_pos hE.1, hE.2]
  exact fun w hI => h _ (fun _ h => ⟨rfl, h⟩) w hI
/-- an operation that only reads, where s of E are done, in one world -/
theorem fix2_one {E : List Nat} {Inv : Nat → World → Prop} {K : Act → Prop} {a : Act} {o : Oper} {rest : List Oper} {i : Nat} (s : Nat) (w0 : World) (hI : ∀ w, Inv s w → w = w0) (h0 : Inv s w0) (hE : (!decide (i ∈ E) && decide (hiF ops E ops.size i ≤ s) && decide (s ≤ loOf E o)) = true) (hw : Region.wanted o (yielded ops a.tmps) = true)
    (h : ∀ J : Act → Prop, (∀ a', fixRun2 P ops E Inv K rest (i + 1) a' → J a') → o.still P a w0 J) : fixRun2 P ops E Inv K (o :: rest) i a := by
  have h1 := h _ (fun _ h => h)
  have key : ∃ v, o.wp P a w0 (fun a' w' => a' = a.put o.dst v ∧ Inv s w') (fun _ _ _ => False) ∧ fixRun2 P ops E Inv K rest (i + 1) (a.put o.dst v) := by
    unfold Oper.still at h1
    unfold Oper.wp
    generalize (execOp a.eval o).run P w0 = r at *
    cases r with
    | ok n w' =>
      cases n <;> simp only [Oper.stillUpon] at h1
      case value u => obtain ⟨rfl, h2⟩ := h1; exact ⟨u, ⟨rfl, h0⟩, h2⟩
      case skip => obtain ⟨rfl, h2⟩ := h1; exact ⟨undef, ⟨rfl, h0⟩, h2⟩
      case enter f args =>
        obtain ⟨rfl, v, hc, h2⟩ := h1
        exact ⟨v, Calls.mono hc fun e w'' ⟨he, hw⟩ => by subst he hw; exact ⟨rfl, h0⟩, h2⟩
    | halt x w' => simp only [Oper.stillUpon] at h1
  obtain ⟨v, h2, h3⟩ := key
  refine fix2_mid v s s (by rw [hE]) hw (fun J s' h4 h5 hJ w hw' => ?_) h3
  obtain rfl : s' = s := by omega
  rw [hI w hw']
  refine Oper.wp_mono (fun a' w' h => ?_) h2
  rw [h.1]
  exact hJ w' h.2
/-- one of E, from one world to one other; no call -/
theorem fix2_effone {E : List Nat} {Inv : Nat → World → Prop} {K : Act → Prop} {a : Act} {o : Oper} {rest : List Oper} {i : Nat} (k : Nat) (w0 w1 : World) (hI : ∀ w, Inv k w → w = w0) (h0 : Inv (k + 1) w1) (hE : (decide (i ∈ E) && E.idxOf i == k) = true) (hw : Region.wanted o (yielded ops a.tmps) = true)
    (hv : ∀ f args w', (execOp a.eval o).run P w0 ≠ .ok (.enter f args) w') (hv2 : ∀ f args w', (execOp a.eval o).run P w0 ≠ .ok (.row f args) w') (hv3 : ∀ d w', (execOp a.eval o).run P w0 ≠ .ok (.defer d) w')
    (h : ∀ J : Act → World → Prop, (∀ a', fixRun2 P ops E Inv K rest (i + 1) a' → J a' w1) → o.wp P a w0 J (fun _ _ _ => False)) : fixRun2 P ops E Inv K (o :: rest) i a := by
  have h1 := h (fun a' w' => w' = w1 ∧ fixRun2 P ops E Inv K rest (i + 1) a') (fun _ h => ⟨rfl, h⟩)
  have key : ∃ v, o.wp P a w0 (fun a' w' => a' = a.put o.dst v ∧ Inv (k + 1) w') (fun _ _ _ => False) ∧ fixRun2 P ops E Inv K rest (i + 1) (a.put o.dst v) := by
    unfold Oper.wp at h1 ⊢
    generalize (execOp a.eval o).run P w0 = r at *
    cases r with
    | ok n w' =>
      cases n <;> simp only [Oper.upon] at h1 ⊢
      case value u => obtain ⟨rfl, h2⟩ := h1; exact ⟨u, ⟨rfl, h0⟩, h2⟩
      case skip => obtain ⟨rfl, h2⟩ := h1; exact ⟨undef, ⟨rfl, h0⟩, h2⟩
      case defer d => exact absurd rfl (hv3 d w')
      case enter f args => exact absurd rfl (hv f args w')
      case row f args => exact absurd rfl (hv2 f args w')
    | halt x w' => cases x <;> simp only [Oper.upon] at h1
  obtain ⟨v, h2, h3⟩ := key
  refine fix2_eff v k hE hw (fun J hJ w hw' => ?_) h3
  rw [hI w hw']
  refine Oper.wp_mono (fun a' w' h => ?_) h2
  rw [h.1]
  exact hJ w' h.2
/-- one of E whose run is known -/
theorem fix2_run {E : List Nat} {Inv : Nat → World → Prop} {K : Act → Prop} {a : Act} {o : Oper} {rest : List Oper} {i : Nat} (k : Nat) (w0 w1 : World) (v : Value) (hI : ∀ w, Inv k w → w = w0) (h0 : Inv (k + 1) w1) (hE : (decide (i ∈ E) && E.idxOf i == k) = true) (hw : Region.wanted o (yielded ops a.tmps) = true)
    (hr : (execOp a.eval o).run P w0 = .ok (.value v) w1) (h : fixRun2 P ops E Inv K rest (i + 1) (a.put o.dst v)) : fixRun2 P ops E Inv K (o :: rest) i a := by
  refine fix2_eff v k hE hw (fun J hJ w hw' => ?_) h
  rw [hI w hw']
  unfold Oper.wp
  rw [hr]
  exact hJ w1 h0
theorem exec_append {P : Program} {a : Act} {o : Oper} (s x : Operand) (t : TypeId) (ho : o.op = .call { callee := .builtin .append, args := #[s, x], argTypes := #[t, t] }) (u y v : Value) (hs : a.eval s = u) (hx : a.eval x = y) {w w' : World} (h : (Builtin.append_ #[t, t] o.type #[u, y]).run P w = .ok v w') : (execOp a.eval o).run P w = .ok (.value v) w' := by
  unfold execOp
  simp only [ho, resolve, invoke, builtin, Sem.run_bind, Sem.run_pure, Result.andThen_ok, List.map_toArray, List.map_cons, List.map_nil, hs, hx, h]
theorem exec_slice1 {P : Program} {a : Act} {o : Oper} (t : TypeId) (x : Operand) (y : Value) (ho : o.op = .buildSlice t 1 #[(0, x)]) (hx : a.eval x = y) {w : World} {v : Value} {w' : World} (h : (Instr.buildSlice t 1 #[(0, y)]).run P w = .ok v w') : (execOp a.eval o).run P w = .ok (.value v) w' := by
  unfold execOp
  simp only [ho, Sem.run_bind, List.map_toArray, List.map_cons, List.map_nil, hx, h, Result.andThen_ok, Sem.run_pure]
theorem fix2_skip {E : List Nat} {Inv : Nat → World → Prop} {K : Act → Prop} {a : Act} {o : Oper} {rest : List Oper} {i : Nat} (hE : decide (i ∈ E) = false) (hw : Region.wanted o (yielded ops a.tmps) = false)
    (hr : fixRun2 P ops E Inv K rest (i + 1) (a.put o.dst undef)) : fixRun2 P ops E Inv K (o :: rest) i a := by
  unfold fixRun2
  rw [if_neg (by rw [hw]; decide)]
  exact ⟨fun h => absurd h (by simpa using hE), hr⟩
end
end Go.Proofs.Ytakefjdckacgpaa.Cod

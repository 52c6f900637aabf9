/- Fix4, where what an operation does may hang on all that was yielded before it (Spec i k g W' u reads g up to k alone). -/
import Derived.Orders
import Derived.Tactics
import Derived.KernelRfl
import Derived.Still
namespace Go.Proofs.Ytclmdidgioggdaa.Cod
section
variable {P : Program} {ops : Array Oper}
def fixB (ops : Array Oper) : Bool :=
  Region.noSelect ops && (List.range ops.size).all fun i => match ops[i]? with
    | none => true
    | some o => (o.after.all fun e => !Region.binds .any e || decide (e.on < i)) && (List.range ops.size).all fun j => match ops[j]? with
      | none => true
      | some oj => match oj.dst with
        | none => true
        | some d => (i == j || o.dst != some d) && (!(o.looksAt ops).contains d || o.after.any fun e => Region.binds .any e && e.on == j)
structure FixOk (ops : Array Oper) : Prop where
  sel : Region.noSelect ops = true
  low : ∀ (i : Nat) (o : Oper), ops[i]? = some o → ∀ e ∈ o.after, Region.binds .any e = true → e.on < i
  dist : ∀ (i : Nat) (o : Oper) (j : Nat) (oj : Oper) (d : Tmp), ops[i]? = some o → ops[j]? = some oj → oj.dst = some d → o.dst = some d → i = j
  look : ∀ (i : Nat) (o : Oper) (j : Nat) (oj : Oper) (d : Tmp), ops[i]? = some o → ops[j]? = some oj → oj.dst = some d → d ∈ o.looksAt ops → ∃ e ∈ o.after, Region.binds .any e = true ∧ e.on = j
theorem fixOk (h : fixB ops = true) : FixOk ops := by
  simp only [fixB, Bool.and_eq_true, List.all_eq_true, List.mem_range] at h
  obtain ⟨hs, h⟩ := h
  have hx : ∀ (i : Nat) (o : Oper), ops[i]? = some o → i < ops.size := fun i o ho => (Array.getElem?_eq_some_iff.1 ho).1
  have hlow : ∀ (i : Nat) (o : Oper), ops[i]? = some o → ∀ e ∈ o.after, Region.binds .any e = true → e.on < i := by
    intro i o ho e he hb
    have h1 := h i (hx i o ho)
    simp only [ho, Bool.and_eq_true, Array.all_eq_true_iff_forall_mem] at h1
    have := h1.1 e he
    simpa [hb] using this
  have hj : ∀ (i : Nat) (o : Oper) (j : Nat) (oj : Oper) (d : Tmp), ops[i]? = some o → ops[j]? = some oj → oj.dst = some d → (i == j || o.dst != some d) = true ∧ (!(o.looksAt ops).contains d || o.after.any fun e => Region.binds .any e && e.on == j) = true := by
    intro i o j oj d ho hoj hd
    have h1 := h i (hx i o ho)
    simp only [ho, Bool.and_eq_true, List.all_eq_true, List.mem_range] at h1
    have h2 := h1.2 j (hx j oj hoj)
    simp only [hoj, hd, Bool.and_eq_true] at h2
    exact h2
  refine ⟨hs, hlow, ?_, ?_⟩
  · intro i o j oj d ho hoj hd hd'
    have := (hj i o j oj d ho hoj hd).1
    simp only [Bool.or_eq_true, beq_iff_eq, bne_iff_ne, ne_eq] at this
    rcases this with h1 | h1
    · exact h1
    · exact absurd hd' h1
  · intro i o j oj d ho hoj hd hl
    have := (hj i o j oj d ho hoj hd).2
    simp only [Bool.or_eq_true, Bool.not_eq_true', List.contains_eq_mem, decide_eq_false_iff_not] at this
    rcases this with h1 | h1
    · exact absurd hl h1
    · obtain ⟨e, he, hb⟩ := Array.any_eq_true'.1 h1
      simp only [Bool.and_eq_true, beq_iff_eq] at hb
      exact ⟨e, he, hb.1, hb.2⟩
/-- an operation puts v, in whatever world of Inv -/
def FixOp (P : Program) (Inv : World → Prop) (a : Act) (o : Oper) (v : Value) : Prop :=
  ∀ w, Inv w → o.wp P a w (fun a' w' => a' = a.put o.dst v ∧ Inv w') (fun _ _ _ => False)
/-- the operations in the order of the text -/
def fixRun (P : Program) (ops : Array Oper) (Inv : World → Prop) (K : Act → Prop) : List Oper → Act → Prop
  | [], a => K a
  | o :: rest, a => if Region.wanted o (yielded ops a.tmps) then ∃ v, FixOp P Inv a o v ∧ fixRun P ops Inv K rest (a.put o.dst v) else fixRun P ops Inv K rest (a.put o.dst undef)
theorem put_same {a b : Act} {d : Option Tmp} {u v : Value} (hs : a.tmps.size = b.tmps.size) (h : a.put d u = a.put d v) : b.put d u = b.put d v := by
  cases d with
  | none => rfl
  | some d =>
    simp only [Act.put] at h ⊢
    injection h with h1
    have h2 : b.tmps.setIfInBounds d u = b.tmps.setIfInBounds d v := by
      apply Array.ext_getElem?
      intro t
      by_cases ht : d = t
      · subst ht
        have := congrArg (fun x : Array Value => x[d]?) h1
        simp only [Array.getElem?_setIfInBounds] at this ⊢
        rw [← hs]
        by_cases hd : d < a.tmps.size
        · simpa [hd] using this
        · simp [hd]
      · rw [Array.getElem?_setIfInBounds_ne ht, Array.getElem?_setIfInBounds_ne ht]
    rw [h2]
theorem put_defers_ne {a : Act} {d : Option Tmp} {u v : Value} {x : Deferred} (h : ({ a with defers := x :: a.defers } : Act).put d u = a.put d v) : False := by
  have h1 : ∀ (b : Act) (z : Value), (b.put d z).defers = b.defers := fun b z => by cases d <;> rfl
  have h2 := congrArg Act.defers h
  rw [h1, h1] at h2
  have h3 := congrArg List.length h2
  simp at h3
theorem letsOut_false : ¬ LetsOut (fun (_ : Exit) (_ : Act) (_ : World) => False) := fun ⟨_, _, h⟩ => h
theorem FixOp.at_ {Inv : World → Prop} {a b : Act} {o : Oper} {v : Value} (h : FixOp P Inv a o v) (he : execOp b.eval o = execOp a.eval o) (hs : a.tmps.size = b.tmps.size) {Q : Exit → Act → World → Prop} (w : World) (hw : Inv w) :
    o.wp P b w (fun a' w' => a' = b.put o.dst v ∧ Inv w') Q := by
  have h1 := h w hw
  unfold Oper.wp at *
  rw [he]
  generalize (execOp a.eval o).run P w = r at *
  cases r with
  | ok n w' =>
    cases n <;> simp only [Oper.upon] at h1 ⊢
    case value u => exact ⟨put_same hs h1.1, h1.2⟩
    case skip => exact ⟨put_same hs h1.1, h1.2⟩
    case defer d => exact (put_defers_ne h1.1).elim
    case enter f args =>
      refine Calls.mono h1 fun e w'' he => ?_
      cases e with
      | returned u => exact ⟨put_same hs he.1, he.2⟩
      | panicked c => exact he.elim
      | outgrown => exact (letsOut_false he).elim
    case row row args => exact Rows.mono h1 fun u w'' he => ⟨put_same hs he.1, he.2⟩
  | halt x w' => cases x <;> simp only [Oper.upon] at h1
theorem put_size (a : Act) (d : Option Tmp) (v : Value) : (a.put d v).tmps.size = a.tmps.size := by cases d <;> simp [Act.put]
theorem put_def (a : Act) (d : Option Tmp) (v : Value) : (a.put d v).defers = a.defers := by cases d <;> rfl
theorem put_get_ne (a : Act) (d : Option Tmp) (v : Value) {t : Nat} (h : d ≠ some t) : (a.put d v).tmps[t]? = a.tmps[t]? := by
  cases d with
  | none => rfl
  | some d => simp only [Act.put]; rw [Array.getElem?_setIfInBounds_ne (fun e => h (by rw [e]))]
theorem act_ext {a b : Act} (hd : a.defers = b.defers) (h : ∀ t : Nat, a.tmps[t]? = b.tmps[t]?) : a = b := by
  obtain ⟨x, y⟩ := a
  obtain ⟨x', y'⟩ := b
  simp only at hd h
  rw [hd, Array.ext_getElem? h]
theorem eval_same {a b : Act} {x : Operand} (h : ∀ t, x = .tmp t → a.tmps[t]? = b.tmps[t]?) : a.eval x = b.eval x := by
  cases x with
  | tmp t => have := h t rfl; simp [Act.eval, this]
  | _ => rfl
theorem exec_same (hs : Region.noSelect ops = true) {i : Nat} {o : Oper} (ho : ops[i]? = some o) {a b : Act} (h : ∀ t ∈ o.looksAt ops, a.tmps[t]? = b.tmps[t]?) : execOp a.eval o = execOp b.eval o :=
  execOp_congr o (fun cs b => Region.noSelect_spec hs i o cs b ho) fun x hx => eval_same fun t ht => h t (by
    subst ht
    exact List.mem_append_left _ (List.mem_filterMap.2 ⟨.tmp t, by simpa using hx, rfl⟩))
theorem wanted_same {o : Oper} {a b : Act} (h : ∀ t ∈ o.looksAt ops, a.tmps[t]? = b.tmps[t]?) : Region.wanted o (yielded ops a.tmps) = Region.wanted o (yielded ops b.tmps) := by
  unfold Region.wanted
  cases hg : o.guard with
  | none => rfl
  | some gw =>
    obtain ⟨g, want⟩ := gw
    have hy : yielded ops a.tmps g = yielded ops b.tmps g := by
      unfold yielded
      cases ht : (ops[g]?).bind (·.dst) with
      | none => rfl
      | some t => have := h t (by simp [Oper.looksAt, hg, ht]); simp only [Option.bind_some, this]
    simp only [hy]
def Fixed (P : Program) (ops : Array Oper) (Inv : World → Prop) (F : Act) (o : Oper) : Prop :=
  (Region.wanted o (yielded ops F.tmps) = true → ∃ v, FixOp P Inv F o v ∧ F.put o.dst v = F) ∧ (Region.wanted o (yielded ops F.tmps) = false → F.put o.dst undef = F)
theorem put_fixed {a F : Act} {d : Option Tmp} {v : Value} (hs : F.tmps.size = (a.put d v).tmps.size) (h : ∀ t, d = some t → F.tmps[t]? = (a.put d v).tmps[t]?) : F.put d v = F := by
  cases d with
  | none => rfl
  | some d =>
    have h1 := h d rfl
    refine act_ext (put_def _ _ _) fun t => ?_
    by_cases ht : d = t
    · subst ht
      simp only [Act.put] at h1 hs ⊢
      rw [h1]
      simp only [Array.getElem?_setIfInBounds, hs, Array.size_setIfInBounds, if_true]
    · exact put_get_ne _ _ _ (fun e => ht (by injection e))
theorem fix_all {Inv : World → Prop} {K : Act → Prop} (ok : FixOk ops) : ∀ (l : List Oper) (k : Nat) (a : Act), (∀ j, l[j]? = ops[k + j]?) → fixRun P ops Inv K l a →
    ∃ F : Act, K F ∧ F.tmps.size = a.tmps.size ∧ F.defers = a.defers ∧ (∀ t : Nat, (∀ (j : Nat) (o : Oper), k ≤ j → ops[j]? = some o → o.dst ≠ some t) → F.tmps[t]? = a.tmps[t]?) ∧ ∀ (j : Nat) (o : Oper), k ≤ j → ops[j]? = some o → Fixed P ops Inv F o
  | [], k, a, hl, h => ⟨a, h, rfl, rfl, fun _ _ => rfl, fun j o hj ho => by
      have := hl (j - k)
      rw [show k + (j - k) = j by omega, ho] at this
      simp at this⟩
  | o :: l, k, a, hl, h => by
    have h0 : ops[k]? = some o := by simpa using (hl 0).symm
    have hl' : ∀ j, l[j]? = ops[k + 1 + j]? := fun j => by have := hl (j + 1); simpa [Nat.add_assoc, Nat.add_comm 1 j] using this
    have key : ∀ v, fixRun P ops Inv K l (a.put o.dst v) → (Region.wanted o (yielded ops a.tmps) = true → FixOp P Inv a o v) → (Region.wanted o (yielded ops a.tmps) = false → v = undef) →
        ∃ F : Act, K F ∧ F.tmps.size = a.tmps.size ∧ F.defers = a.defers ∧ (∀ t : Nat, (∀ (j : Nat) (o : Oper), k ≤ j → ops[j]? = some o → o.dst ≠ some t) → F.tmps[t]? = a.tmps[t]?) ∧ ∀ (j : Nat) (o : Oper), k ≤ j → ops[j]? = some o → Fixed P ops Inv F o := by
      intro v hr hv hu
      obtain ⟨F, hK, hsz, hdf, hout, hfx⟩ := fix_all ok l (k + 1) _ hl' hr
      rw [put_size] at hsz
      rw [put_def] at hdf
      have hlook : ∀ t ∈ o.looksAt ops, F.tmps[t]? = a.tmps[t]? := by
        intro t ht
        have hn : ∀ (j : Nat) (oj : Oper), k ≤ j → ops[j]? = some oj → oj.dst ≠ some t := by
          intro j oj hj hoj hd
          obtain ⟨e, he, hb, hon⟩ := ok.look k o j oj t h0 hoj hd ht
          have := ok.low k o h0 e he hb
          omega
        rw [hout t (fun j oj hj hoj => hn j oj (by omega) hoj), put_get_ne _ _ _ (hn k o (Nat.le_refl _) h0)]
      have hex := exec_same ok.sel h0 hlook
      have hwa := wanted_same hlook
      have hfix : F.put o.dst v = F := by
        refine put_fixed (by rw [put_size]; exact hsz) fun t ht => hout t fun j oj hj hoj hd => ?_
        have := ok.dist k o j oj t h0 hoj hd ht
        omega
      refine ⟨F, hK, hsz, hdf, ?_, ?_⟩
      · intro t ht
        rw [hout t (fun j oj hj hoj => ht j oj (by omega) hoj), put_get_ne _ _ _ (ht k o (Nat.le_refl _) h0)]
      · intro j oj hj hoj
        by_cases hjk : j = k
        · subst hjk
          obtain rfl : oj = o := Option.some.inj (hoj.symm.trans h0)
          refine ⟨fun hw => ⟨v, ?_, hfix⟩, fun hw => ?_⟩
          · rw [hwa] at hw
            intro w hI
            exact (hv hw).at_ hex hsz.symm w hI
          · rw [hwa] at hw
            have := hu hw
            subst this
            exact hfix
        · exact hfx j oj (by omega) hoj
    unfold fixRun at h
    by_cases hw : Region.wanted o (yielded ops a.tmps) = true
    · rw [if_pos hw] at h
      obtain ⟨v, hv, hr⟩ := h
      exact key v hr (fun _ => hv) (fun e => by rw [hw] at e; cases e)
    · rw [if_neg hw] at h
      exact key undef h (fun e => absurd e hw) (fun _ => rfl)
/-- on the way through a region -/
def OnWay (ops : Array Oper) (Inv : World → Prop) (F : Act) (listed : Array Bool) (a : Act) (w : World) : Prop :=
  Inv w ∧ a.tmps.size = F.tmps.size ∧ a.defers = F.defers ∧ ∀ t : Nat, a.tmps[t]? = F.tmps[t]? ∨ ∃ (j : Nat) (o : Oper), ops[j]? = some o ∧ o.dst = some t ∧ listed.getD j false = false
theorem onWay_step {Inv : World → Prop} {F : Act} (ok : FixOk ops) (hfx : ∀ (j : Nat) (o : Oper), ops[j]? = some o → Fixed P ops Inv F o) {Q : Exit → Act → World → Prop} {listed : Array Bool} {a : Act} {w : World} (h : OnWay ops Inv F listed a w) {i : Nat} (hi : i ∈ Region.ready .any ops listed) :
    wpOp P ops Q i (OnWay ops Inv F (listed.setIfInBounds i true)) a w := by
  obtain ⟨hI, hsz, hdf, hall⟩ := h
  obtain ⟨_, o, ho, hready⟩ := mem_ready.1 hi
  have hlook : ∀ t ∈ o.looksAt ops, a.tmps[t]? = F.tmps[t]? := by
    intro t ht
    rcases hall t with h1 | ⟨j, oj, hoj, hd, hun⟩
    · exact h1
    · obtain ⟨e, he, hb, hon⟩ := ok.look i o j oj t ho hoj hd ht
      have := hready e he hb
      rw [hon, hun] at this
      cases this
  have hex := exec_same ok.sel ho hlook
  have hwa := wanted_same hlook
  have hnext : ∀ v, F.put o.dst v = F → ∀ w', Inv w' → OnWay ops Inv F (listed.setIfInBounds i true) (a.put o.dst v) w' := by
    intro v hv w' hI'
    refine ⟨hI', by rw [put_size]; exact hsz, by rw [put_def]; exact hdf, fun t => ?_⟩
    by_cases ht : o.dst = some t
    · left
      rw [ht] at hv ⊢
      rw [← congrArg (fun x : Act => x.tmps[t]?) hv]
      simp only [Act.put, Array.getElem?_setIfInBounds, hsz]
      by_cases hb : t < F.tmps.size
      · simp [hb]
      · simp [hb]
    · rw [put_get_ne _ _ _ ht]
      rcases hall t with h1 | ⟨j, oj, hoj, hd, hun⟩
      · exact .inl h1
      · refine .inr ⟨j, oj, hoj, hd, ?_⟩
        have hij : i ≠ j := by
          rintro rfl
          obtain rfl : oj = o := Option.some.inj (hoj.symm.trans ho)
          exact ht hd
        rw [getD_set_ne false hij]
        exact hun
  unfold wpOp
  simp only [ho]
  by_cases hw : Region.wanted o (yielded ops a.tmps) = true
  · rw [if_pos hw]
    rw [hwa] at hw
    obtain ⟨v, hv, hF⟩ := (hfx i o ho).1 hw
    refine .inl (Oper.wp_mono (fun a' w' h => ?_) (hv.at_ hex hsz.symm w hI))
    rw [h.1]
    exact hnext v hF w' h.2
  · rw [if_neg hw]
    rw [hwa] at hw
    exact hnext undef ((hfx i o ho).2 (by simpa using hw)) w hI
theorem all_listed (ok : FixOk ops) {listed : Array Bool} (hr : Region.ready .any ops listed = []) (hsz : listed.size = ops.size) : ∀ i, i < ops.size → listed.getD i false = true := by
  intro i
  induction i using Nat.strongRecOn with
  | _ i ih =>
    intro hi
    cases hl : listed.getD i false with
    | true => rfl
    | false =>
      have hm : i ∈ Region.ready .any ops listed := by
        refine mem_ready.2 ⟨?_, ops[i], Array.getElem?_eq_getElem hi, fun e he hb => ?_⟩
        · have hi' : i < listed.size := by omega
          simp [hi'] at hl ⊢
          exact hl
        · have hlt := ok.low i _ (Array.getElem?_eq_getElem hi) e he hb
          exact ih e.on hlt (by omega)
      rw [hr] at hm
      cases hm
theorem onWay_any {Inv : World → Prop} {F : Act} (ok : FixOk ops) (hfx : ∀ (j : Nat) (o : Oper), ops[j]? = some o → Fixed P ops Inv F o) {Q : Exit → Act → World → Prop} (hQ : ∀ w, Inv w → Q .normal F w) :
    ∀ (fuel : Nat) (listed : Array Bool) (a : Act) (w : World), listed.size = ops.size → ((List.range ops.size).filter fun i => !listed.getD i true).length ≤ fuel → OnWay ops Inv F listed a w → wpAny P .any ops Q fuel listed a w := by
  have fin : ∀ (listed : Array Bool) (a : Act) (w : World), listed.size = ops.size → Region.ready .any ops listed = [] → OnWay ops Inv F listed a w → Q .normal a w := by
    intro listed a w hsz hr h
    have hl := all_listed ok hr hsz
    have : a = F := act_ext h.2.2.1 fun t => by
      rcases h.2.2.2 t with h1 | ⟨j, o, ho, _, hun⟩
      · exact h1
      · rw [hl j (Array.getElem?_eq_some_iff.1 ho).1] at hun; cases hun
    rw [this]
    exact hQ w h.1
  intro fuel
  induction fuel with
  | zero =>
    intro listed a w hsz hc h
    have hr : Region.ready .any ops listed = [] := by
      cases hq : Region.ready .any ops listed with
      | nil => rfl
      | cons i l =>
        have hm : i ∈ Region.ready .any ops listed := by rw [hq]; simp
        obtain ⟨h0, o, ho, _⟩ := mem_ready.1 hm
        have : i ∈ (List.range ops.size).filter fun i => !listed.getD i true := List.mem_filter.2 ⟨List.mem_range.2 (Array.getElem?_eq_some_iff.1 ho).1, by simpa using h0⟩
        rw [List.eq_nil_of_length_eq_zero (Nat.le_zero.1 hc)] at this
        cases this
    exact ⟨hr, fin listed a w hsz hr h⟩
  | succ fuel ih =>
    intro listed a w hsz hc h
    refine ⟨fun hr => fin listed a w hsz hr h, fun i hi => ?_⟩
    refine wpOp_mono (fun a' w' h' => ih (listed.setIfInBounds i true) a' w' (by simpa using hsz) ?_ h') (onWay_step ok hfx h hi)
    obtain ⟨h0, o, ho, _⟩ := mem_ready.1 hi
    have hilt := (Array.getElem?_eq_some_iff.1 ho).1
    have hsub : ∀ (l : List Nat), l.Nodup → i ∈ l → (l.filter fun j => !(listed.setIfInBounds i true).getD j true).length < (l.filter fun j => !listed.getD j true).length := by
      intro l
      induction l with
      | nil => intro _ h; cases h
      | cons x l ihl =>
        intro hn hm
        rw [List.nodup_cons] at hn
        by_cases hx : x = i
        · subst hx
          have hrest : (l.filter fun j => !(listed.setIfInBounds x true).getD j true) = l.filter fun j => !listed.getD j true := by
            refine List.filter_congr fun j hj => ?_
            have hne : x ≠ j := fun e => hn.1 (e ▸ hj)
            rw [getD_set_ne true hne]
          have hxl : x < listed.size := by omega
          have h1 : (listed.setIfInBounds x true).getD x true = true := by simp [hxl]
          rw [List.filter_cons, List.filter_cons, hrest, h1, h0]
          simp
        · have hm' : i ∈ l := by
            rcases List.mem_cons.1 hm with e | e
            · exact absurd e.symm hx
            · exact e
          have := ihl hn.2 hm'
          rw [List.filter_cons, List.filter_cons, getD_set_ne true (Ne.symm hx)]
          split
          · simpa using this
          · exact this
    have := hsub (List.range ops.size) List.nodup_range (List.mem_range.2 hilt)
    omega
theorem wp_region_fix {id : Nat} {l : List Oper} {Q : Exit → Act → World → Prop} {a : Act} {w : World} (Inv : World → Prop) (hm : P.follows .mixedOrders = true) (hB : fixB l.toArray = true) (h0 : Inv { w with drawn := w.drawn + 1 })
    (h : fixRun P l.toArray Inv (fun a' => ∀ w', Inv w' → Q .normal a' w') l a) : (Code.region id l.toArray true).wp P Q a w := by
  have ok := fixOk hB
  obtain ⟨F, hK, hsz, hdf, hout, hfx⟩ := fix_all ok l 0 a (by simp) h
  refine wp_region_any hm (onWay_any ok (fun j o ho => hfx j o (Nat.zero_le _) ho) hK _ _ a _ (by simp) ?_ ⟨h0, hsz.symm, hdf.symm, fun t => ?_⟩)
  · refine Nat.le_trans (List.length_filter_le _ _) (by simp)
  · by_cases ht : ∃ (j : Nat) (o : Oper), l.toArray[j]? = some o ∧ o.dst = some t
    · obtain ⟨j, o, ho, hd⟩ := ht
      exact .inr ⟨j, o, ho, hd, getD_replicate_false' _ _⟩
    · exact .inl (hout t (fun j o _ ho hd => ht ⟨j, o, ho, hd⟩)).symm
where
  getD_replicate_false' (m j : Nat) : (Array.replicate m false).getD j false = false := by
    rcases Nat.lt_or_ge j m with h | h
    · simp [h]
    · simp [h]
theorem fix_nil {Inv : World → Prop} {K : Act → Prop} {a : Act} (h : K a) : fixRun P ops Inv K [] a := h
theorem fix_step {Inv : World → Prop} {K : Act → Prop} {a : Act} {o : Oper} {rest : List Oper} (v : Value) (hw : Region.wanted o (yielded ops a.tmps) = true)
    (h : ∀ (J : Act → World → Prop), (∀ w, Inv w → J (a.put o.dst v) w) → ∀ w, Inv w → o.wp P a w J (fun _ _ _ => False)) (hr : fixRun P ops Inv K rest (a.put o.dst v)) : fixRun P ops Inv K (o :: rest) a := by
  unfold fixRun
  rw [if_pos hw]
  exact ⟨v, fun w hI => h _ (fun _ h => ⟨rfl, h⟩) w hI, hr⟩
theorem fix_skip {Inv : World → Prop} {K : Act → Prop} {a : Act} {o : Oper} {rest : List Oper} (hw : Region.wanted o (yielded ops a.tmps) = false)
    (hr : fixRun P ops Inv K rest (a.put o.dst undef)) : fixRun P ops Inv K (o :: rest) a := by
  unfold fixRun
  rw [if_neg (by rw [hw]; decide)]
  exact hr
end
end Go.Proofs.Ytclmdidgioggdaa.Cod
namespace Go.Proofs.Ytclmdidgioggdaa.Cod
section
variable {P : Program} {ops : Array Oper}
def waitsB (o : Oper) (e : Nat) : Bool := o.after.any fun x => Region.binds .any x && x.on == e
def fixB2 (ops : Array Oper) : Bool :=
  Region.noSelect ops && (List.range ops.size).all fun i => match ops[i]? with
    | none => true
    | some o => (o.after.all fun e => !Region.binds .any e || decide (e.on < i)) && (List.range ops.size).all fun j => match ops[j]? with
      | none => true
      | some oj => match oj.dst with
        | none => true
        | some d => (i == j || o.dst != some d) && (!(o.looksAt ops).contains d || waitsB o j || (decide (i < j) && waitsB oj i))
theorem waitsB_spec {o : Oper} {e : Nat} (h : waitsB o e = true) : ∃ x ∈ o.after, Region.binds .any x = true ∧ x.on = e := by
  obtain ⟨x, hx, hb⟩ := Array.any_eq_true'.1 h
  simp only [Bool.and_eq_true, beq_iff_eq] at hb
  exact ⟨x, hx, hb.1, hb.2⟩
structure FixOk2 (ops : Array Oper) : Prop where
  sel : Region.noSelect ops = true
  low : ∀ (i : Nat) (o : Oper), ops[i]? = some o → ∀ e ∈ o.after, Region.binds .any e = true → e.on < i
  dist : ∀ (i : Nat) (o : Oper) (j : Nat) (oj : Oper) (d : Tmp), ops[i]? = some o → ops[j]? = some oj → oj.dst = some d → o.dst = some d → i = j
  look : ∀ (i : Nat) (o : Oper) (j : Nat) (oj : Oper) (d : Tmp), ops[i]? = some o → ops[j]? = some oj → oj.dst = some d → d ∈ o.looksAt ops → waitsB o j = true ∨ (i < j ∧ waitsB oj i = true)
theorem fixOk2 (h : fixB2 ops = true) : FixOk2 ops := by
  simp only [fixB2, Bool.and_eq_true, List.all_eq_true, List.mem_range] at h
  obtain ⟨hs, h⟩ := h
  have hx : ∀ (i : Nat) (o : Oper), ops[i]? = some o → i < ops.size := fun i o ho => (Array.getElem?_eq_some_iff.1 ho).1
  have hlow : ∀ (i : Nat) (o : Oper), ops[i]? = some o → ∀ e ∈ o.after, Region.binds .any e = true → e.on < i := by
    intro i o ho e he hb
    have h1 := h i (hx i o ho)
    simp only [ho, Bool.and_eq_true, Array.all_eq_true_iff_forall_mem] at h1
    have := h1.1 e he
    simpa [hb] using this
  have hj : ∀ (i : Nat) (o : Oper) (j : Nat) (oj : Oper) (d : Tmp), ops[i]? = some o → ops[j]? = some oj → oj.dst = some d → (i == j || o.dst != some d) = true ∧ (!(o.looksAt ops).contains d || waitsB o j || (decide (i < j) && waitsB oj i)) = true := by
    intro i o j oj d ho hoj hd
    have h1 := h i (hx i o ho)
    simp only [ho, Bool.and_eq_true, List.all_eq_true, List.mem_range] at h1
    have h2 := h1.2 j (hx j oj hoj)
    simp only [hoj, hd, Bool.and_eq_true] at h2
    exact h2
  refine ⟨hs, hlow, ?_, ?_⟩
  · intro i o j oj d ho hoj hd hd'
    have := (hj i o j oj d ho hoj hd).1
    simp only [Bool.or_eq_true, beq_iff_eq, bne_iff_ne, ne_eq] at this
    rcases this with h1 | h1
    · exact h1
    · exact absurd hd' h1
  · intro i o j oj d ho hoj hd hl
    have := (hj i o j oj d ho hoj hd).2
    simp only [Bool.or_eq_true, Bool.not_eq_true', List.contains_eq_mem, decide_eq_false_iff_not, Bool.and_eq_true, decide_eq_true_eq] at this
    rcases this with (h1 | h1) | h1
    · exact absurd hl h1
    · exact .inl h1
    · exact .inr h1
def chainE (ops : Array Oper) : List Nat → Bool
  | e :: e' :: r => (match ops[e']? with | some o => waitsB o e | none => false) && chainE ops (e' :: r)
  | _ => true
def loOf (E : List Nat) (o : Oper) : Nat := (E.zipIdx.map fun x => if waitsB o x.1 then x.2 + 1 else 0).foldl max 0
def stage (E : List Nat) (listed : Array Bool) : Nat := (E.filter fun e => listed.getD e false).length
/-- how many of E may be done when operation i has not run -/
def hiF (ops : Array Oper) (E : List Nat) : Nat → Nat → Nat
  | 0, _ => E.length
  | f + 1, i => if i ∈ E then E.idxOf i else (((List.range ops.size).filter fun j => match ops[j]? with | some oj => waitsB oj i | none => false).map (hiF ops E f)).foldl min E.length
/-- the operations in the order of the text: i the place of the next one, k how many of E are done -/
def fixRun2 (P : Program) (ops : Array Oper) (E : List Nat) (Inv : Nat → World → Prop) (K : Act → Prop) : List Oper → Nat → Act → Prop
  | [], _, a => K a
  | o :: rest, i, a =>
    if Region.wanted o (yielded ops a.tmps) then
      ∃ v, (if i ∈ E then ∀ w, Inv (E.idxOf i) w → o.wp P a w (fun a' w' => a' = a.put o.dst v ∧ Inv (E.idxOf i + 1) w') (fun _ _ _ => False) else ∀ s, loOf E o ≤ s → s ≤ hiF ops E ops.size i → FixOp P (Inv s) a o v) ∧ fixRun2 P ops E Inv K rest (i + 1) (a.put o.dst v)
    else (i ∈ E → ∀ w, Inv (E.idxOf i) w → Inv (E.idxOf i + 1) w) ∧ fixRun2 P ops E Inv K rest (i + 1) (a.put o.dst undef)
/-- what an operation does at the frame A that stands before it in the text; F: the last frame -/
def Fixed2 (P : Program) (ops : Array Oper) (E : List Nat) (Inv : Nat → World → Prop) (F A : Act) (i : Nat) (o : Oper) : Prop :=
  (Region.wanted o (yielded ops A.tmps) = true → ∃ v, (if i ∈ E then ∀ w, Inv (E.idxOf i) w → o.wp P A w (fun a' w' => a' = A.put o.dst v ∧ Inv (E.idxOf i + 1) w') (fun _ _ _ => False) else ∀ s, loOf E o ≤ s → s ≤ hiF ops E ops.size i → FixOp P (Inv s) A o v) ∧ F.put o.dst v = F) ∧
  (Region.wanted o (yielded ops A.tmps) = false → (i ∈ E → ∀ w, Inv (E.idxOf i) w → Inv (E.idxOf i + 1) w) ∧ F.put o.dst undef = F)
/-- the frame before operation j: what the operations from k on before it put is as at the end, all else as in a -/
structure Before (ops : Array Oper) (k j : Nat) (a F A : Act) : Prop where
  size : A.tmps.size = F.tmps.size
  put : ∀ (t : Nat) (i : Nat) (o : Oper), k ≤ i → i < j → ops[i]? = some o → o.dst = some t → A.tmps[t]? = F.tmps[t]?
  old : ∀ t : Nat, (∀ (i : Nat) (o : Oper), k ≤ i → i < j → ops[i]? = some o → o.dst ≠ some t) → A.tmps[t]? = a.tmps[t]?
theorem wp_at2 {J : World → Prop} {a b : Act} {o : Oper} {v : Value} {w : World} (h1 : o.wp P a w (fun a' w' => a' = a.put o.dst v ∧ J w') (fun _ _ _ => False)) (he : execOp b.eval o = execOp a.eval o) (hs : a.tmps.size = b.tmps.size) {Q : Exit → Act → World → Prop} :
    o.wp P b w (fun a' w' => a' = b.put o.dst v ∧ J w') Q := by
  unfold Oper.wp at *
  rw [he]
  generalize (execOp a.eval o).run P w = r at *
  cases r with
  | ok n w' =>
    cases n <;> simp only [Oper.upon] at h1 ⊢
    case value u => exact ⟨put_same hs h1.1, h1.2⟩
    case skip => exact ⟨put_same hs h1.1, h1.2⟩
    case defer d => exact (put_defers_ne h1.1).elim
    case enter f args =>
      refine Calls.mono h1 fun e w'' he => ?_
      cases e with
      | returned u => exact ⟨put_same hs he.1, he.2⟩
      | panicked c => exact he.elim
      | outgrown => exact (letsOut_false he).elim
    case row row args => exact Rows.mono h1 fun u w'' he => ⟨put_same hs he.1, he.2⟩
  | halt x w' => cases x <;> simp only [Oper.upon] at h1
theorem fix_all2 {E : List Nat} {Inv : Nat → World → Prop} {K : Act → Prop} (ok : FixOk2 ops) : ∀ (l : List Oper) (k : Nat) (a : Act), (∀ j, l[j]? = ops[k + j]?) → fixRun2 P ops E Inv K l k a →
    ∃ F : Act, K F ∧ F.tmps.size = a.tmps.size ∧ F.defers = a.defers ∧ (∀ t : Nat, (∀ (j : Nat) (o : Oper), k ≤ j → ops[j]? = some o → o.dst ≠ some t) → F.tmps[t]? = a.tmps[t]?) ∧ ∀ (j : Nat) (o : Oper), k ≤ j → ops[j]? = some o → ∃ A, Before ops k j a F A ∧ Fixed2 P ops E Inv F A j o
  | [], k, a, hl, h => ⟨a, h, rfl, rfl, fun _ _ => rfl, fun j o hj ho => by
      have := hl (j - k)
      rw [show k + (j - k) = j by omega, ho] at this
      simp at this⟩
  | o :: l, k, a, hl, h => by
    have h0 : ops[k]? = some o := by simpa using (hl 0).symm
    have hl' : ∀ j, l[j]? = ops[k + 1 + j]? := fun j => by have := hl (j + 1); simpa [Nat.add_assoc, Nat.add_comm 1 j] using this
    have key : ∀ v, fixRun2 P ops E Inv K l (k + 1) (a.put o.dst v) → (Region.wanted o (yielded ops a.tmps) = true → if k ∈ E then ∀ w, Inv (E.idxOf k) w → o.wp P a w (fun a' w' => a' = a.put o.dst v ∧ Inv (E.idxOf k + 1) w') (fun _ _ _ => False) else ∀ s, loOf E o ≤ s → s ≤ hiF ops E ops.size k → FixOp P (Inv s) a o v) →
        (Region.wanted o (yielded ops a.tmps) = false → v = undef ∧ (k ∈ E → ∀ w, Inv (E.idxOf k) w → Inv (E.idxOf k + 1) w)) →
        ∃ F : Act, K F ∧ F.tmps.size = a.tmps.size ∧ F.defers = a.defers ∧ (∀ t : Nat, (∀ (j : Nat) (o : Oper), k ≤ j → ops[j]? = some o → o.dst ≠ some t) → F.tmps[t]? = a.tmps[t]?) ∧ ∀ (j : Nat) (o : Oper), k ≤ j → ops[j]? = some o → ∃ A, Before ops k j a F A ∧ Fixed2 P ops E Inv F A j o := by
      intro v hr hv hu
      obtain ⟨F, hK, hsz, hdf, hout, hfx⟩ := fix_all2 ok l (k + 1) _ hl' hr
      rw [put_size] at hsz
      rw [put_def] at hdf
      have hlate : ∀ t, o.dst = some t → F.tmps[t]? = (a.put o.dst v).tmps[t]? := fun t ht => hout t fun j oj hj hoj hd => by
        have := ok.dist k o j oj t h0 hoj hd ht
        omega
      have hfix : F.put o.dst v = F := put_fixed (by rw [put_size]; exact hsz) hlate
      refine ⟨F, hK, hsz, hdf, ?_, ?_⟩
      · intro t ht
        rw [hout t (fun j oj hj hoj => ht j oj (by omega) hoj), put_get_ne _ _ _ (ht k o (Nat.le_refl _) h0)]
      · intro j oj hj hoj
        by_cases hjk : j = k
        · subst hjk
          obtain rfl : oj = o := Option.some.inj (hoj.symm.trans h0)
          refine ⟨a, ⟨hsz.symm, fun t i o h1 h2 => by omega, fun _ _ => rfl⟩, fun hw => ⟨v, hv hw, hfix⟩, fun hw => ?_⟩
          obtain ⟨rfl, h2⟩ := hu hw
          exact ⟨h2, hfix⟩
        · obtain ⟨A, hA, hF⟩ := hfx j oj (by omega) hoj
          refine ⟨A, ⟨hA.size, ?_, ?_⟩, hF⟩
          · intro t i oi h1 h2 hoi hd
            by_cases hik : i = k
            · subst hik
              obtain rfl : oi = o := Option.some.inj (hoi.symm.trans h0)
              have hno : ∀ (i' : Nat) (o' : Oper), i + 1 ≤ i' → i' < j → ops[i']? = some o' → o'.dst ≠ some t := by
                intro i' o' h3 _ ho' hd'
                have := ok.dist i oi i' o' t h0 ho' hd' hd
                omega
              rw [hA.old t hno, hlate t hd]
            · exact hA.put t i oi (by omega) h2 hoi hd
          · intro t ht
            rw [hA.old t (fun i o' h1 h2 ho' => ht i o' (by omega) h2 ho'), put_get_ne _ _ _ (ht k o (Nat.le_refl _) (by omega) h0)]
    unfold fixRun2 at h
    by_cases hw : Region.wanted o (yielded ops a.tmps) = true
    · rw [if_pos hw] at h
      obtain ⟨v, hv, hr⟩ := h
      exact key v hr (fun _ => hv) (fun e => by rw [hw] at e; cases e)
    · rw [if_neg hw] at h
      exact key undef h.2 (fun e => absurd e hw) (fun _ => ⟨rfl, h.1⟩)
def Closed (ops : Array Oper) (listed : Array Bool) : Prop := ∀ (j : Nat) (o : Oper), ops[j]? = some o → listed.getD j false = true → ∀ e ∈ o.after, Region.binds .any e = true → listed.getD e.on false = true
/-- of a chain that is closed just a beginning is listed -/
theorem chain_pre {listed : Array Bool} (hc : Closed ops listed) : ∀ (E : List Nat), chainE ops E = true → ∃ s, s ≤ E.length ∧ (∀ e ∈ E.take s, listed.getD e false = true) ∧ (∀ e ∈ E.drop s, listed.getD e false = false)
  | [], _ => ⟨0, by simp, by simp, by simp⟩
  | [e], _ => by
    cases h : listed.getD e false with
    | true => exact ⟨1, by simp, by simpa using h, by simp⟩
    | false => exact ⟨0, by simp, by simp, by simpa using h⟩
  | e :: e' :: r, hE => by
    simp only [chainE, Bool.and_eq_true] at hE
    obtain ⟨s, hs, h1, h2⟩ := chain_pre hc (e' :: r) hE.2
    cases h : listed.getD e false with
    | true =>
      refine ⟨s + 1, by simpa using hs, ?_, by simpa using h2⟩
      intro x hx
      rw [List.take_succ_cons, List.mem_cons] at hx
      rcases hx with rfl | hx
      · exact h
      · exact h1 x hx
    | false =>
      have hs0 : s = 0 := by
        rcases s with _ | s
        · rfl
        · exfalso
          have h3 := h1 e' (by simp)
          cases ho : ops[e']? with
          | none => simp [ho] at hE
          | some o =>
            simp only [ho] at hE
            obtain ⟨x, hx, hb, hon⟩ := waitsB_spec hE.1
            have h4 := hc e' o ho h3 x hx hb
            rw [hon, h] at h4
            cases h4
      subst hs0
      refine ⟨0, by simp, by simp, ?_⟩
      intro x hx
      rw [List.drop_zero, List.mem_cons] at hx
      rcases hx with rfl | hx
      · exact h
      · exact h2 x (by simpa using hx)
theorem stage_pre {listed : Array Bool} {E : List Nat} {s : Nat} (hs : s ≤ E.length) (h1 : ∀ e ∈ E.take s, listed.getD e false = true) (h2 : ∀ e ∈ E.drop s, listed.getD e false = false) : stage E listed = s := by
  unfold stage
  have e : E = E.take s ++ E.drop s := (List.take_append_drop s E).symm
  rw [e, List.filter_append, List.filter_eq_self.2 h1, List.filter_eq_nil_iff.2 (fun x hx => by rw [h2 x hx]; decide)]
  simp; omega
def OnWay2 (ops : Array Oper) (E : List Nat) (Inv : Nat → World → Prop) (a0 F : Act) (listed : Array Bool) (a : Act) (w : World) : Prop :=
  Inv (stage E listed) w ∧ Closed ops listed ∧ listed.size = ops.size ∧ a.tmps.size = F.tmps.size ∧ a.defers = F.defers ∧
    (∀ (t : Nat) (j : Nat) (o : Oper), ops[j]? = some o → o.dst = some t → listed.getD j false = true → a.tmps[t]? = F.tmps[t]?) ∧
    ∀ t : Nat, (∀ (j : Nat) (o : Oper), ops[j]? = some o → o.dst = some t → listed.getD j false = false) → a.tmps[t]? = a0.tmps[t]?
theorem loOf_le {E : List Nat} {o : Oper} {s : Nat} (h : ∀ (j e : Nat), E[j]? = some e → waitsB o e = true → j + 1 ≤ s) : loOf E o ≤ s := by
  unfold loOf
  have hall : ∀ x ∈ (E.zipIdx.map fun x => if waitsB o x.1 then x.2 + 1 else 0), x ≤ s := by
    intro x hx
    obtain ⟨⟨e, j⟩, hm, rfl⟩ := List.mem_map.1 hx
    have hj := List.mem_zipIdx_iff_getElem?.1 hm
    simp only
    split
    · rename_i hw; exact h j e hj hw
    · exact Nat.zero_le _
  have hf : ∀ (l : List Nat) (b : Nat), b ≤ s → (∀ x ∈ l, x ≤ s) → l.foldl max b ≤ s := by
    intro l
    induction l with
    | nil => intro b hb _; exact hb
    | cons y l ih => intro b hb hl; exact ih _ (Nat.max_le.2 ⟨hb, hl y (by simp)⟩) (fun x hx => hl x (by simp [hx]))
  exact hf _ 0 (Nat.zero_le _) hall
theorem foldl_min {s : Nat} : ∀ (l : List Nat) (b : Nat), s ≤ b → (∀ x ∈ l, s ≤ x) → s ≤ l.foldl min b
  | [], _, hb, _ => hb
  | y :: l, b, hb, hl => foldl_min l _ (Nat.le_min.2 ⟨hb, hl y (by simp)⟩) (fun x hx => hl x (by simp [hx]))
theorem hiF_le {listed : Array Bool} {E : List Nat} (hcl : Closed ops listed) (hch : chainE ops E = true) : ∀ (f i : Nat), listed.getD i false = false → stage E listed ≤ hiF ops E f i := by
  obtain ⟨s, hs, hs1, hs2⟩ := chain_pre hcl E hch
  have hst := stage_pre hs hs1 hs2
  rw [hst]
  intro f
  induction f with
  | zero => intro i _; exact hs
  | succ f ih =>
    intro i hun
    unfold hiF
    split
    · rename_i hE
      have hk : E.idxOf i < E.length := List.idxOf_lt_length_iff.2 hE
      rcases Nat.lt_or_ge (E.idxOf i) s with h1 | h1
      · exfalso
        have hm : i ∈ E.take s := List.mem_take_iff_getElem.2 ⟨E.idxOf i, by omega, List.getElem_idxOf hk⟩
        rw [hs1 i hm] at hun
        cases hun
      · exact h1
    · refine foldl_min _ _ hs fun x hx => ?_
      obtain ⟨j, hj, rfl⟩ := List.mem_map.1 hx
      refine ih j ?_
      have hj2 := (List.mem_filter.1 hj).2
      cases hl : listed.getD j false with
      | false => rfl
      | true =>
        cases hoj : ops[j]? with
        | none => rw [hoj] at hj2; cases hj2
        | some oj =>
          simp only [hoj] at hj2
          obtain ⟨e, he, hb, hon⟩ := waitsB_spec hj2
          have := hcl j oj hoj hl e he hb
          rw [hon, hun] at this
          cases this
theorem onWay2_step {E : List Nat} {Inv : Nat → World → Prop} {a0 F : Act} (ok : FixOk2 ops) (hch : chainE ops E = true) (hnd : E.Nodup) (hfx : ∀ (j : Nat) (o : Oper), ops[j]? = some o → ∃ A, Before ops 0 j a0 F A ∧ Fixed2 P ops E Inv F A j o) {Q : Exit → Act → World → Prop} {listed : Array Bool} {a : Act} {w : World} (h : OnWay2 ops E Inv a0 F listed a w) {i : Nat} (hi : i ∈ Region.ready .any ops listed) :
    wpOp P ops Q i (OnWay2 ops E Inv a0 F (listed.setIfInBounds i true)) a w := by
  obtain ⟨hI, hcl, hls, hsz, hdf, hnew, hold⟩ := h
  obtain ⟨hun0, o, ho, hready⟩ := mem_ready.1 hi
  have hilt := (Array.getElem?_eq_some_iff.1 ho).1
  have hun : listed.getD i false = false := by
    have hi' : i < listed.size := by omega
    simp [hi'] at hun0 ⊢; exact hun0
  obtain ⟨A, hA, hFA⟩ := hfx i o ho
  have hlook : ∀ t ∈ o.looksAt ops, a.tmps[t]? = A.tmps[t]? := by
    intro t ht
    by_cases hw : ∃ (j : Nat) (oj : Oper), ops[j]? = some oj ∧ oj.dst = some t
    · obtain ⟨j, oj, hoj, hd⟩ := hw
      rcases ok.look i o j oj t ho hoj hd ht with h1 | ⟨hij, h1⟩
      · obtain ⟨e, he, hb, hon⟩ := waitsB_spec h1
        have hl := hready e he hb
        rw [hon] at hl
        have hji := ok.low i o ho e he hb
        rw [hnew t j oj hoj hd hl, hA.put t j oj (Nat.zero_le _) (by omega) hoj hd]
      · obtain ⟨e, he, hb, hon⟩ := waitsB_spec h1
        have hjun : listed.getD j false = false := by
          cases hl : listed.getD j false with
          | false => rfl
          | true =>
            have := hcl j oj hoj hl e he hb
            rw [hon, hun] at this
            cases this
        have honly : ∀ (j' : Nat) (o' : Oper), ops[j']? = some o' → o'.dst = some t → j' = j := fun j' o' ho' hd' => ok.dist j' o' j oj t ho' hoj hd hd'
        rw [hold t fun j' o' ho' hd' => by rw [honly j' o' ho' hd']; exact hjun, hA.old t fun i' o' _ h2 ho' hd' => by
          have := honly i' o' ho' hd'
          omega]
    · rw [hold t fun j o' ho' hd' => absurd ⟨j, o', ho', hd'⟩ hw, hA.old t fun i' o' _ _ ho' hd' => hw ⟨i', o', ho', hd'⟩]
  have hex := exec_same ok.sel ho hlook
  have hwa := wanted_same hlook
  obtain ⟨s, hs, hs1, hs2⟩ := chain_pre hcl E hch
  have hst := stage_pre hs hs1 hs2
  have hcl' : Closed ops (listed.setIfInBounds i true) := by
    intro j oj hoj hl e he hb
    by_cases hij : i = j
    · subst hij
      obtain rfl : oj = o := Option.some.inj (hoj.symm.trans ho)
      exact getD_set_true (hready e he hb)
    · rw [getD_set_ne false hij] at hl
      exact getD_set_true (hcl j oj hoj hl e he hb)
  have hset : (listed.setIfInBounds i true).getD i false = true := by
    have hi' : i < listed.size := by omega
    simp [hi']
  have hnext : ∀ v, F.put o.dst v = F → ∀ w', Inv (stage E (listed.setIfInBounds i true)) w' → OnWay2 ops E Inv a0 F (listed.setIfInBounds i true) (a.put o.dst v) w' := by
    intro v hv w' hI'
    refine ⟨hI', hcl', by simpa using hls, by rw [put_size]; exact hsz, by rw [put_def]; exact hdf, fun t j oj hoj hd hl => ?_, fun t ht => ?_⟩
    · by_cases htd : o.dst = some t
      · rw [htd] at hv ⊢
        rw [← congrArg (fun x : Act => x.tmps[t]?) hv]
        simp only [Act.put, Array.getElem?_setIfInBounds, hsz]
        by_cases hb : t < F.tmps.size
        · simp [hb]
        · simp [hb]
      · rw [put_get_ne _ _ _ htd]
        have hij : i ≠ j := by
          rintro rfl
          obtain rfl : oj = o := Option.some.inj (hoj.symm.trans ho)
          exact htd hd
        rw [getD_set_ne false hij] at hl
        exact hnew t j oj hoj hd hl
    · have htd : o.dst ≠ some t := fun hd => by
        have := ht i o ho hd
        rw [hset] at this
        cases this
      rw [put_get_ne _ _ _ htd]
      refine hold t fun j oj hoj hd => ?_
      have hij : i ≠ j := by
        rintro rfl
        obtain rfl : oj = o := Option.some.inj (hoj.symm.trans ho)
        exact htd hd
      have := ht j oj hoj hd
      rwa [getD_set_ne false hij] at this
  have hstep : if i ∈ E then stage E listed = E.idxOf i ∧ stage E (listed.setIfInBounds i true) = E.idxOf i + 1 else stage E (listed.setIfInBounds i true) = stage E listed := by
    split
    · rename_i hE
      have hk : E.idxOf i < E.length := List.idxOf_lt_length_iff.2 hE
      have hg : E[E.idxOf i] = i := List.getElem_idxOf hk
      have hsi : s = E.idxOf i := by
        rcases Nat.lt_trichotomy s (E.idxOf i) with hlt | heq | hgt
        · exfalso
          -- i waits for E[s], which is not listed
          have hprev : ∀ d, d ≤ E.idxOf i - s → ∀ (hb : E.idxOf i - d < E.length), listed.getD (E[E.idxOf i - d]) false = false := by
            intro d hd hb
            have hm : E[E.idxOf i - d] ∈ E.drop s := by
              rw [List.mem_drop_iff_getElem]
              exact ⟨E.idxOf i - d - s, by omega, by congr 1; omega⟩
            exact hs2 _ hm
          have hp := hprev 1 (by omega) (by omega)
          have hpair : ∀ (l : List Nat), chainE ops l = true → ∀ (j : Nat) (hj : j + 1 < l.length), ∃ o, ops[l[j + 1]]? = some o ∧ waitsB o l[j] = true := by
            intro l
            induction l with
            | nil => intro _ j hj; simp at hj
            | cons x l ih =>
              intro hl j hj
              cases l with
              | nil => simp at hj
              | cons y r =>
                simp only [chainE, Bool.and_eq_true] at hl
                cases j with
                | zero =>
                  cases hoy : ops[y]? with
                  | none => simp [hoy] at hl
                  | some oy => simp only [hoy] at hl; exact ⟨oy, by simpa using hoy, by simpa using hl.1⟩
                | succ j => exact ih hl.2 j (by simpa using hj)
          obtain ⟨o', ho', hw'⟩ := hpair E hch (E.idxOf i - 1) (by omega)
          have hidx : E[E.idxOf i - 1 + 1]'(by omega) = i := by
            have : E.idxOf i - 1 + 1 = E.idxOf i := by omega
            simp only [this, hg]
          rw [hidx] at ho'
          obtain rfl : o' = o := Option.some.inj (ho'.symm.trans ho)
          obtain ⟨x, hx, hb, hon⟩ := waitsB_spec hw'
          have := hready x hx hb
          rw [hon, hp] at this
          cases this
        · exact heq
        · exfalso
          have hm : i ∈ E.take s := by
            rw [List.mem_take_iff_getElem]
            exact ⟨E.idxOf i, by omega, hg⟩
          rw [hs1 i hm] at hun
          cases hun
      refine ⟨hst.trans hsi, ?_⟩
      rw [← hsi]
      refine stage_pre (by omega) ?_ ?_
      · intro e he
        rw [List.take_add_one, List.mem_append] at he
        rcases he with he | he
        · exact getD_set_true (hs1 e he)
        · rw [hsi, List.getElem?_eq_getElem hk, hg] at he
          simp at he
          rw [he]; exact hset
      · intro e he
        have hne : i ≠ e := by
          rintro rfl
          obtain ⟨j, hj, hje⟩ := List.mem_drop_iff_getElem.1 he
          have h3 : E[s + 1 + j]'(by omega) = E[E.idxOf i] := by rw [hg]; simpa [Nat.add_comm] using hje
          exact (List.pairwise_iff_getElem.1 hnd (E.idxOf i) (s + 1 + j) hk (by omega) (by omega)) h3.symm
        rw [getD_set_ne false hne]
        refine hs2 e ?_
        obtain ⟨j, hj, hje⟩ := List.mem_drop_iff_getElem.1 he
        exact List.mem_drop_iff_getElem.2 ⟨j + 1, by omega, by rw [← hje]; congr 1; omega⟩
    · rename_i hE
      unfold stage
      congr 1
      refine List.filter_congr fun e he => ?_
      have hne : i ≠ e := fun h => hE (h ▸ he)
      rw [getD_set_ne false hne]
  have hlo : i ∉ E → loOf E o ≤ stage E listed := by
    intro _
    refine loOf_le fun j e hj hw => ?_
    obtain ⟨x, hx, hb, hon⟩ := waitsB_spec hw
    have hl := hready x hx hb
    rw [hon] at hl
    rcases Nat.lt_or_ge j s with h1 | h1
    · rw [hst]; omega
    · exfalso
      obtain ⟨hjl, hje⟩ := List.getElem?_eq_some_iff.1 hj
      have hm : e ∈ E.drop s := List.mem_drop_iff_getElem.2 ⟨j - s, by omega, by rw [← hje]; congr 1; omega⟩
      rw [hs2 e hm] at hl
      cases hl
  unfold wpOp
  simp only [ho]
  by_cases hw : Region.wanted o (yielded ops a.tmps) = true
  · rw [if_pos hw]
    rw [hwa] at hw
    obtain ⟨v, hv, hF⟩ := hFA.1 hw
    by_cases hE : i ∈ E
    · rw [if_pos hE] at hv hstep
      have h1 := hv w (by rw [← hstep.1]; exact hI)
      refine .inl (Oper.wp_mono (fun a' w' h => ?_) (wp_at2 h1 hex (hA.size.trans hsz.symm)))
      rw [h.1]
      exact hnext v hF w' (by rw [hstep.2]; exact h.2)
    · rw [if_neg hE] at hv hstep
      refine .inl (Oper.wp_mono (fun a' w' h => ?_) ((hv _ (hlo hE) (hiF_le hcl hch _ i hun)).at_ hex (hA.size.trans hsz.symm) w hI))
      rw [h.1]
      exact hnext v hF w' (by rw [hstep]; exact h.2)
  · rw [if_neg hw]
    rw [hwa] at hw
    obtain ⟨h2, hF⟩ := hFA.2 (by simpa using hw)
    refine hnext undef hF w ?_
    by_cases hE : i ∈ E
    · rw [if_pos hE] at hstep
      rw [hstep.2]
      exact h2 hE w (by rw [← hstep.1]; exact hI)
    · rw [if_neg hE] at hstep
      rw [hstep]; exact hI
theorem all_listed2 (ok : FixOk2 ops) {listed : Array Bool} (hr : Region.ready .any ops listed = []) (hsz : listed.size = ops.size) : ∀ i, i < ops.size → listed.getD i false = true := by
  intro i
  induction i using Nat.strongRecOn with
  | _ i ih =>
    intro hi
    cases hl : listed.getD i false with
    | true => rfl
    | false =>
      have hm : i ∈ Region.ready .any ops listed := by
        refine mem_ready.2 ⟨?_, ops[i], Array.getElem?_eq_getElem hi, fun e he hb => ?_⟩
        · have hi' : i < listed.size := by omega
          simp [hi'] at hl ⊢
          exact hl
        · have hlt := ok.low i _ (Array.getElem?_eq_getElem hi) e he hb
          exact ih e.on hlt (by omega)
      rw [hr] at hm
      cases hm
theorem onWay2_any {E : List Nat} {Inv : Nat → World → Prop} {a0 F : Act} (ok : FixOk2 ops) (hch : chainE ops E = true) (hnd : E.Nodup) (hEb : ∀ e ∈ E, e < ops.size) (hF0 : ∀ t : Nat, (∀ (j : Nat) (o : Oper), ops[j]? = some o → o.dst ≠ some t) → F.tmps[t]? = a0.tmps[t]?) (hfx : ∀ (j : Nat) (o : Oper), ops[j]? = some o → ∃ A, Before ops 0 j a0 F A ∧ Fixed2 P ops E Inv F A j o) {Q : Exit → Act → World → Prop} (hQ : ∀ w, Inv E.length w → Q .normal F w) :
    ∀ (fuel : Nat) (listed : Array Bool) (a : Act) (w : World), ((List.range ops.size).filter fun i => !listed.getD i true).length ≤ fuel → OnWay2 ops E Inv a0 F listed a w → wpAny P .any ops Q fuel listed a w := by
  have fin : ∀ (listed : Array Bool) (a : Act) (w : World), Region.ready .any ops listed = [] → OnWay2 ops E Inv a0 F listed a w → Q .normal a w := by
    intro listed a w hr h
    have hl := all_listed2 ok hr h.2.2.1
    have hA : a = F := act_ext h.2.2.2.2.1 fun t => by
      by_cases hw : ∃ (j : Nat) (o : Oper), ops[j]? = some o ∧ o.dst = some t
      · obtain ⟨j, o, ho, hd⟩ := hw
        exact h.2.2.2.2.2.1 t j o ho hd (hl j (Array.getElem?_eq_some_iff.1 ho).1)
      · rw [h.2.2.2.2.2.2 t fun j o ho hd => absurd ⟨j, o, ho, hd⟩ hw, hF0 t fun j o ho hd => hw ⟨j, o, ho, hd⟩]
    have hS : stage E listed = E.length := by
      unfold stage
      rw [List.filter_eq_self.2 fun e he => hl e (hEb e he)]
    rw [hA]
    exact hQ w (by rw [← hS]; exact h.1)
  intro fuel
  induction fuel with
  | zero =>
    intro listed a w hc h
    have hr : Region.ready .any ops listed = [] := by
      cases hq : Region.ready .any ops listed with
      | nil => rfl
      | cons i l =>
        have hm : i ∈ Region.ready .any ops listed := by rw [hq]; simp
        obtain ⟨h0, o, ho, _⟩ := mem_ready.1 hm
        have : i ∈ (List.range ops.size).filter fun i => !listed.getD i true := List.mem_filter.2 ⟨List.mem_range.2 (Array.getElem?_eq_some_iff.1 ho).1, by simpa using h0⟩
        rw [List.eq_nil_of_length_eq_zero (Nat.le_zero.1 hc)] at this
        cases this
    exact ⟨hr, fin listed a w hr h⟩
  | succ fuel ih =>
    intro listed a w hc h
    refine ⟨fun hr => fin listed a w hr h, fun i hi => ?_⟩
    refine wpOp_mono (fun a' w' h' => ih (listed.setIfInBounds i true) a' w' ?_ h') (onWay2_step ok hch hnd hfx h hi)
    obtain ⟨h0, o, ho, _⟩ := mem_ready.1 hi
    have hilt := (Array.getElem?_eq_some_iff.1 ho).1
    have hls := h.2.2.1
    have hsub : ∀ (l : List Nat), l.Nodup → i ∈ l → (l.filter fun j => !(listed.setIfInBounds i true).getD j true).length < (l.filter fun j => !listed.getD j true).length := by
      intro l
      induction l with
      | nil => intro _ h; cases h
      | cons x l ihl =>
        intro hn hm
        rw [List.nodup_cons] at hn
        by_cases hx : x = i
        · subst hx
          have hrest : (l.filter fun j => !(listed.setIfInBounds x true).getD j true) = l.filter fun j => !listed.getD j true := by
            refine List.filter_congr fun j hj => ?_
            have hne : x ≠ j := fun e => hn.1 (e ▸ hj)
            rw [getD_set_ne true hne]
          have hxl : x < listed.size := by omega
          have h1 : (listed.setIfInBounds x true).getD x true = true := by simp [hxl]
          rw [List.filter_cons, List.filter_cons, hrest, h1, h0]
          simp
        · have hm' : i ∈ l := by
            rcases List.mem_cons.1 hm with e | e
            · exact absurd e.symm hx
            · exact e
          have := ihl hn.2 hm'
          rw [List.filter_cons, List.filter_cons, getD_set_ne true (Ne.symm hx)]
          split
          · simpa using this
          · exact this
    have := hsub (List.range ops.size) List.nodup_range (List.mem_range.2 hilt)
    omega
/-- THE RULE: E the places of the operations that change the world -/
theorem region_fix2 {id : Nat} {l : List Oper} {Q : Exit → Act → World → Prop} {a : Act} {w : World} (E : List Nat) (Inv : Nat → World → Prop) (hm : P.follows .mixedOrders = true) (hB : (fixB2 l.toArray && chainE l.toArray E && decide (E.Nodup) && E.all (fun e => decide (e < l.toArray.size))) = true) (h0 : Inv 0 w.drew)
    (h : fixRun2 P l.toArray E Inv (fun a' => ∀ w', Inv E.length w' → Q .normal a' w') l 0 a) : (Code.region id l.toArray true).wp P Q a w := by
  simp only [Bool.and_eq_true, decide_eq_true_eq, List.all_eq_true] at hB
  obtain ⟨⟨⟨hfix, hch⟩, hnd⟩, hEb⟩ := hB
  have ok := fixOk2 hfix
  obtain ⟨F, hK, hsz, hdf, hout, hfx⟩ := fix_all2 ok l 0 a (by simp) h
  have hrep : ∀ j : Nat, (Array.replicate l.toArray.size false).getD j false = false := by
    intro j
    rw [Array.getD_eq_getD_getElem?, Array.getElem?_replicate]
    split <;> rfl
  have hst0 : stage E (Array.replicate l.toArray.size false) = 0 := by
    unfold stage
    rw [List.filter_eq_nil_iff.2 (fun e _ => by rw [hrep]; decide)]
    rfl
  refine wp_region_any hm (onWay2_any (a0 := a) ok hch hnd hEb (fun t ht => hout t fun j o _ ho => ht j o ho) (fun j o ho => hfx j o (Nat.zero_le _) ho) hK _ _ a _ ?_ ⟨by rw [hst0]; exact h0, ?_, by simp, hsz.symm, hdf.symm, ?_, fun _ _ => rfl⟩)
  · refine Nat.le_trans (List.length_filter_le _ _) (by simp)
  · intro j o _ hl
    rw [hrep] at hl
    cases hl
  · intro t j o _ _ hl
    rw [hrep] at hl
    cases hl
theorem fix2_nil {E : List Nat} {Inv : Nat → World → Prop} {K : Act → Prop} {a : Act} {i : Nat} (h : K a) : fixRun2 P ops E Inv K [] i a := h
/-- an operation that changes nothing that counts -/
theorem fix2_step {E : List Nat} {Inv : Nat → World → Prop} {K : Act → Prop} {a : Act} {o : Oper} {rest : List Oper} {i : Nat} (v : Value) (hE : decide (i ∈ E) = false) (hw : Region.wanted o (yielded ops a.tmps) = true)
    (h : ∀ (J : Act → World → Prop) (s : Nat), loOf E o ≤ s → (∀ w, Inv s w → J (a.put o.dst v) w) → ∀ w, Inv s w → o.wp P a w J (fun _ _ _ => False)) (hr : fixRun2 P ops E Inv K rest (i + 1) (a.put o.dst v)) : fixRun2 P ops E Inv K (o :: rest) i a := by
  unfold fixRun2
  rw [if_pos hw]
  refine ⟨v, ?_, hr⟩
  rw [if_neg (by simpa using hE)]
  exact fun s hs _ w hI => h _ s hs (fun _ h => ⟨rfl, h⟩) w hI
/-- an operation that runs before the first of E -/
theorem fix2_first {E : List Nat} {Inv : Nat → World → Prop} {K : Act → Prop} {a : Act} {o : Oper} {rest : List Oper} {i : Nat} (v : Value) (hE : (!decide (i ∈ E) && decide (hiF ops E ops.size i ≤ 0)) = true) (hw : Region.wanted o (yielded ops a.tmps) = true)
    (h : ∀ (J : Act → World → Prop), (∀ w, Inv 0 w → J (a.put o.dst v) w) → ∀ w, Inv 0 w → o.wp P a w J (fun _ _ _ => False)) (hr : fixRun2 P ops E Inv K rest (i + 1) (a.put o.dst v)) : fixRun2 P ops E Inv K (o :: rest) i a := by
  simp only [Bool.and_eq_true, Bool.not_eq_true', decide_eq_false_iff_not, decide_eq_true_eq] at hE
  unfold fixRun2
  rw [if_pos hw]
  refine ⟨v, ?_, hr⟩
  rw [if_neg hE.1]
  intro s _ hs w hI
  obtain rfl : s = 0 := by omega
  exact h _ (fun _ h => ⟨rfl, h⟩) w hI
/-- an operation that runs when at least lo and at most hi of E are done -/
theorem fix2_mid {E : List Nat} {Inv : Nat → World → Prop} {K : Act → Prop} {a : Act} {o : Oper} {rest : List Oper} {i : Nat} (v : Value) (lo hi : Nat) (hE : (!decide (i ∈ E) && decide (hiF ops E ops.size i ≤ hi) && decide (lo ≤ loOf E o)) = true) (hw : Region.wanted o (yielded ops a.tmps) = true)
    (h : ∀ (J : Act → World → Prop) (s : Nat), lo ≤ s → s ≤ hi → (∀ w, Inv s w → J (a.put o.dst v) w) → ∀ w, Inv s w → o.wp P a w J (fun _ _ _ => False)) (hr : fixRun2 P ops E Inv K rest (i + 1) (a.put o.dst v)) : fixRun2 P ops E Inv K (o :: rest) i a := by
  simp only [Bool.and_eq_true, Bool.not_eq_true', decide_eq_false_iff_not, decide_eq_true_eq] at hE
  unfold fixRun2
  rw [if_pos hw]
  refine ⟨v, ?_, hr⟩
  rw [if_neg hE.1.1]
  intro s hs1 hs2 w hI
  exact h _ s (by omega) (by omega) (fun _ h => ⟨rfl, h⟩) w hI
/-- one of E -/
theorem fix2_eff {E : List Nat} {Inv : Nat → World → Prop} {K : Act → Prop} {a : Act} {o : Oper} {rest : List Oper} {i : Nat} (v : Value) (k : Nat) (hE : (decide (i ∈ E) && E.idxOf i == k) = true) (hw : Region.wanted o (yielded ops a.tmps) = true)
    (h : ∀ (J : Act → World → Prop), (∀ w, Inv (k + 1) w → J (a.put o.dst v) w) → ∀ w, Inv k w → o.wp P a w J (fun _ _ _ => False)) (hr : fixRun2 P ops E Inv K rest (i + 1) (a.put o.dst v)) : fixRun2 P ops E Inv K (o :: rest) i a := by
  simp only [Bool.and_eq_true, decide_eq_true_eq, beq_iff_eq] at hE
  unfold fixRun2
  rw [if_pos hw]
  refine ⟨v, ?_, hr⟩
  rw [if_pos hE.1, hE.2]
  exact fun w hI => h _ (fun _ h => ⟨rfl, h⟩) w hI
/-- an operation that only reads, where s of E are done, in one world -/
theorem fix2_one {E : List Nat} {Inv : Nat → World → Prop} {K : Act → Prop} {a : Act} {o : Oper} {rest : List Oper} {i : Nat} (s : Nat) (w0 : World) (hI : ∀ w, Inv s w → w = w0) (h0 : Inv s w0) (hE : (!decide (i ∈ E) && decide (hiF ops E ops.size i ≤ s) && decide (s ≤ loOf E o)) = true) (hw : Region.wanted o (yielded ops a.tmps) = true)
    (h : ∀ J : Act → Prop, (∀ a', fixRun2 P ops E Inv K rest (i + 1) a' → J a') → o.still P a w0 J) : fixRun2 P ops E Inv K (o :: rest) i a := by
  have h1 := h _ (fun _ h => h)
  have key : ∃ v, o.wp P a w0 (fun a' w' => a' = a.put o.dst v ∧ Inv s w') (fun _ _ _ => False) ∧ fixRun2 P ops E Inv K rest (i + 1) (a.put o.dst v) := by
    unfold Oper.still at h1
    unfold Oper.wp
    generalize (execOp a.eval o).run P w0 = r at *
    cases r with
    | ok n w' =>
      cases n <;> simp only [Oper.stillUpon] at h1
      case value u => obtain ⟨rfl, h2⟩ := h1; exact ⟨u, ⟨rfl, h0⟩, h2⟩
      case skip => obtain ⟨rfl, h2⟩ := h1; exact ⟨undef, ⟨rfl, h0⟩, h2⟩
      case enter f args =>
        obtain ⟨rfl, v, hc, h2⟩ := h1
        exact ⟨v, Calls.mono hc fun e w'' ⟨he, hw⟩ => by subst he hw; exact ⟨rfl, h0⟩, h2⟩
    | halt x w' => simp only [Oper.stillUpon] at h1
  obtain ⟨v, h2, h3⟩ := key
  refine fix2_mid v s s (by rw [hE]) hw (fun J s' h4 h5 hJ w hw' => ?_) h3
  obtain rfl : s' = s := by omega
  rw [hI w hw']
  refine Oper.wp_mono (fun a' w' h => ?_) h2
  rw [h.1]
  exact hJ w' h.2
/-- one of E, from one world to one other; no call -/
theorem fix2_effone {E : List Nat} {Inv : Nat → World → Prop} {K : Act → Prop} {a : Act} {o : Oper} {rest : List Oper} {i : Nat} (k : Nat) (w0 w1 : World) (hI : ∀ w, Inv k w → w = w0) (h0 : Inv (k + 1) w1) (hE : (decide (i ∈ E) && E.idxOf i == k) = true) (hw : Region.wanted o (yielded ops a.tmps) = true)
    (hv : ∀ f args w', (execOp a.eval o).run P w0 ≠ .ok (.enter f args) w') (hv2 : ∀ f args w', (execOp a.eval o).run P w0 ≠ .ok (.row f args) w') (hv3 : ∀ d w', (execOp a.eval o).run P w0 ≠ .ok (.defer d) w')
    (h : ∀ J : Act → World → Prop, (∀ a', fixRun2 P ops E Inv K rest (i + 1) a' → J a' w1) → o.wp P a w0 J (fun _ _ _ => False)) : fixRun2 P ops E Inv K (o :: rest) i a := by
  have h1 := h (fun a' w' => w' = w1 ∧ fixRun2 P ops E Inv K rest (i + 1) a') (fun _ h => ⟨rfl, h⟩)
  have key : ∃ v, o.wp P a w0 (fun a' w' => a' = a.put o.dst v ∧ Inv (k + 1) w') (fun _ _ _ => False) ∧ fixRun2 P ops E Inv K rest (i + 1) (a.put o.dst v) := by
    unfold Oper.wp at h1 ⊢
    generalize (execOp a.eval o).run P w0 = r at *
    cases r with
    | ok n w' =>
      cases n <;> simp only [Oper.upon] at h1 ⊢
      case value u => obtain ⟨rfl, h2⟩ := h1; exact ⟨u, ⟨rfl, h0⟩, h2⟩
      case skip => obtain ⟨rfl, h2⟩ := h1; exact ⟨undef, ⟨rfl, h0⟩, h2⟩
      case defer d => exact absurd rfl (hv3 d w')
      case enter f args => exact absurd rfl (hv f args w')
      case row f args => exact absurd rfl (hv2 f args w')
    | halt x w' => cases x <;> simp only [Oper.upon] at h1
  obtain ⟨v, h2, h3⟩ := key
  refine fix2_eff v k hE hw (fun J hJ w hw' => ?_) h3
  rw [hI w hw']
  refine Oper.wp_mono (fun a' w' h => ?_) h2
  rw [h.1]
  exact hJ w' h.2
/-- one of E whose run is known -/
theorem fix2_run {E : List Nat} {Inv : Nat → World → Prop} {K : Act → Prop} {a : Act} {o : Oper} {rest : List Oper} {i : Nat} (k : Nat) (w0 w1 : World) (v : Value) (hI : ∀ w, Inv k w → w = w0) (h0 : Inv (k + 1) w1) (hE : (decide (i ∈ E) && E.idxOf i == k) = true) (hw : Region.wanted o (yielded ops a.tmps) = true)
    (hr : (execOp a.eval o).run P w0 = .ok (.value v) w1) (h : fixRun2 P ops E Inv K rest (i + 1) (a.put o.dst v)) : fixRun2 P ops E Inv K (o :: rest) i a := by
  refine fix2_eff v k hE hw (fun J hJ w hw' => ?_) h
  rw [hI w hw']
  unfold Oper.wp
  rw [hr]
  exact hJ w1 h0
theorem exec_append {P : Program} {a : Act} {o : Oper} (s x : Operand) (t : TypeId) (ho : o.op = .call { callee := .builtin .append, args := #[s, x], argTypes := #[t, t] }) (u y v : Value) (hs : a.eval s = u) (hx : a.eval x = y) {w w' : World} (h : (Builtin.append_ #[t, t] o.type #[u, y]).run P w = .ok v w') : (execOp a.eval o).run P w = .ok (.value v) w' := by
  unfold execOp
  simp only [ho, resolve, invoke, builtin, Sem.run_bind, Sem.run_pure, Result.andThen_ok, List.map_toArray, List.map_cons, List.map_nil, hs, hx, h]
theorem exec_slice1 {P : Program} {a : Act} {o : Oper} (t : TypeId) (x : Operand) (y : Value) (ho : o.op = .buildSlice t 1 #[(0, x)]) (hx : a.eval x = y) {w : World} {v : Value} {w' : World} (h : (Instr.buildSlice t 1 #[(0, y)]).run P w = .ok v w') : (execOp a.eval o).run P w = .ok (.value v) w' := by
  unfold execOp
  simp only [ho, Sem.run_bind, List.map_toArray, List.map_cons, List.map_nil, hx, h, Result.andThen_ok, Sem.run_pure]
theorem fix2_skip {E : List Nat} {Inv : Nat → World → Prop} {K : Act → Prop} {a : Act} {o : Oper} {rest : List Oper} {i : Nat} (hE : decide (i ∈ E) = false) (hw : Region.wanted o (yielded ops a.tmps) = false)
    (hr : fixRun2 P ops E Inv K rest (i + 1) (a.put o.dst undef)) : fixRun2 P ops E Inv K (o :: rest) i a := by
  unfold fixRun2
  rw [if_neg (by rw [hw]; decide)]
  exact ⟨fun h => absurd h (by simpa using hE), hr⟩
end
end Go.Proofs.Ytclmdidgioggdaa.Cod
namespace Go.Proofs.Ytclmdidgioggdaa.Cod
section
variable {P : Program} {ops : Array Oper}
def fixRunG (ops : Array Oper) (Cl : Nat → Oper → Act → Value → Prop) (Sk : Nat → Prop) (K : Act → Prop) : List Oper → Nat → Act → Prop
  | [], _, a => K a
  | o :: rest, i, a =>
    if Region.wanted o (yielded ops a.tmps) then ∃ v, Cl i o a v ∧ fixRunG ops Cl Sk K rest (i + 1) (a.put o.dst v)
    else Sk i ∧ fixRunG ops Cl Sk K rest (i + 1) (a.put o.dst undef)
def FixedG (ops : Array Oper) (Cl : Nat → Oper → Act → Value → Prop) (Sk : Nat → Prop) (F A : Act) (i : Nat) (o : Oper) : Prop :=
  (Region.wanted o (yielded ops A.tmps) = true → ∃ v, Cl i o A v ∧ F.put o.dst v = F) ∧ (Region.wanted o (yielded ops A.tmps) = false → Sk i ∧ F.put o.dst undef = F)
theorem fix_allG {Cl : Nat → Oper → Act → Value → Prop} {Sk : Nat → Prop} {K : Act → Prop} (ok : FixOk2 ops) : ∀ (l : List Oper) (k : Nat) (a : Act), (∀ j, l[j]? = ops[k + j]?) → fixRunG ops Cl Sk K l k a →
    ∃ F : Act, K F ∧ F.tmps.size = a.tmps.size ∧ F.defers = a.defers ∧ (∀ t : Nat, (∀ (j : Nat) (o : Oper), k ≤ j → ops[j]? = some o → o.dst ≠ some t) → F.tmps[t]? = a.tmps[t]?) ∧ ∀ (j : Nat) (o : Oper), k ≤ j → ops[j]? = some o → ∃ A, Before ops k j a F A ∧ FixedG ops Cl Sk F A j o
  | [], k, a, hl, h => ⟨a, h, rfl, rfl, fun _ _ => rfl, fun j o hj ho => by
      have := hl (j - k)
      rw [show k + (j - k) = j by omega, ho] at this
      simp at this⟩
  | o :: l, k, a, hl, h => by
    have h0 : ops[k]? = some o := by simpa using (hl 0).symm
    have hl' : ∀ j, l[j]? = ops[k + 1 + j]? := fun j => by have := hl (j + 1); simpa [Nat.add_assoc, Nat.add_comm 1 j] using this
    have key : ∀ v, fixRunG ops Cl Sk K l (k + 1) (a.put o.dst v) → (Region.wanted o (yielded ops a.tmps) = true → Cl k o a v) →
        (Region.wanted o (yielded ops a.tmps) = false → v = undef ∧ Sk k) →
        ∃ F : Act, K F ∧ F.tmps.size = a.tmps.size ∧ F.defers = a.defers ∧ (∀ t : Nat, (∀ (j : Nat) (o : Oper), k ≤ j → ops[j]? = some o → o.dst ≠ some t) → F.tmps[t]? = a.tmps[t]?) ∧ ∀ (j : Nat) (o : Oper), k ≤ j → ops[j]? = some o → ∃ A, Before ops k j a F A ∧ FixedG ops Cl Sk F A j o := by
      intro v hr hv hu
      obtain ⟨F, hK, hsz, hdf, hout, hfx⟩ := fix_allG ok l (k + 1) _ hl' hr
      rw [put_size] at hsz
      rw [put_def] at hdf
      have hlate : ∀ t, o.dst = some t → F.tmps[t]? = (a.put o.dst v).tmps[t]? := fun t ht => hout t fun j oj hj hoj hd => by
        have := ok.dist k o j oj t h0 hoj hd ht
        omega
      have hfix : F.put o.dst v = F := put_fixed (by rw [put_size]; exact hsz) hlate
      refine ⟨F, hK, hsz, hdf, ?_, ?_⟩
      · intro t ht
        rw [hout t (fun j oj hj hoj => ht j oj (by omega) hoj), put_get_ne _ _ _ (ht k o (Nat.le_refl _) h0)]
      · intro j oj hj hoj
        by_cases hjk : j = k
        · subst hjk
          obtain rfl : oj = o := Option.some.inj (hoj.symm.trans h0)
          refine ⟨a, ⟨hsz.symm, fun t i o h1 h2 => by omega, fun _ _ => rfl⟩, fun hw => ⟨v, hv hw, hfix⟩, fun hw => ?_⟩
          obtain ⟨rfl, h2⟩ := hu hw
          exact ⟨h2, hfix⟩
        · obtain ⟨A, hA, hF⟩ := hfx j oj (by omega) hoj
          refine ⟨A, ⟨hA.size, ?_, ?_⟩, hF⟩
          · intro t i oi h1 h2 hoi hd
            by_cases hik : i = k
            · subst hik
              obtain rfl : oi = o := Option.some.inj (hoi.symm.trans h0)
              have hno : ∀ (i' : Nat) (o' : Oper), i + 1 ≤ i' → i' < j → ops[i']? = some o' → o'.dst ≠ some t := by
                intro i' o' h3 _ ho' hd'
                have := ok.dist i oi i' o' t h0 ho' hd' hd
                omega
              rw [hA.old t hno, hlate t hd]
            · exact hA.put t i oi (by omega) h2 hoi hd
          · intro t ht
            rw [hA.old t (fun i o' h1 h2 ho' => ht i o' (by omega) h2 ho'), put_get_ne _ _ _ (ht k o (Nat.le_refl _) (by omega) h0)]
    unfold fixRunG at h
    by_cases hw : Region.wanted o (yielded ops a.tmps) = true
    · rw [if_pos hw] at h
      obtain ⟨v, hv, hr⟩ := h
      exact key v hr (fun _ => hv) (fun e => by rw [hw] at e; cases e)
    · rw [if_neg hw] at h
      exact key undef h.2 (fun e => absurd e hw) (fun _ => ⟨rfl, h.1⟩)
structure Fits (ops : Array Oper) (a0 F : Act) (listed : Array Bool) (a : Act) : Prop where
  size : a.tmps.size = F.tmps.size
  def_ : a.defers = F.defers
  new : ∀ (t : Nat) (j : Nat) (o : Oper), ops[j]? = some o → o.dst = some t → listed.getD j false = true → a.tmps[t]? = F.tmps[t]?
  old : ∀ t : Nat, (∀ (j : Nat) (o : Oper), ops[j]? = some o → o.dst = some t → listed.getD j false = false) → a.tmps[t]? = a0.tmps[t]?
theorem fits_look {a0 F A : Act} (ok : FixOk2 ops) {listed : Array Bool} {a : Act} (hcl : Closed ops listed) (hf : Fits ops a0 F listed a) {i : Nat} {o : Oper} (ho : ops[i]? = some o) (hun : listed.getD i false = false) (hready : ∀ e ∈ o.after, Region.binds .any e = true → listed.getD e.on false = true) (hA : Before ops 0 i a0 F A) : ∀ t ∈ o.looksAt ops, a.tmps[t]? = A.tmps[t]? := by
  obtain ⟨hsz, hdf, hnew, hold⟩ := hf
  intro t ht
  by_cases hw : ∃ (j : Nat) (oj : Oper), ops[j]? = some oj ∧ oj.dst = some t
  · obtain ⟨j, oj, hoj, hd⟩ := hw
    rcases ok.look i o j oj t ho hoj hd ht with h1 | ⟨hij, h1⟩
    · obtain ⟨e, he, hb, hon⟩ := waitsB_spec h1
      have hl := hready e he hb
      rw [hon] at hl
      have hji := ok.low i o ho e he hb
      rw [hnew t j oj hoj hd hl, hA.put t j oj (Nat.zero_le _) (by omega) hoj hd]
    · obtain ⟨e, he, hb, hon⟩ := waitsB_spec h1
      have hjun : listed.getD j false = false := by
        cases hl : listed.getD j false with
        | false => rfl
        | true =>
          have := hcl j oj hoj hl e he hb
          rw [hon, hun] at this
          cases this
      have honly : ∀ (j' : Nat) (o' : Oper), ops[j']? = some o' → o'.dst = some t → j' = j := fun j' o' ho' hd' => ok.dist j' o' j oj t ho' hoj hd hd'
      rw [hold t fun j' o' ho' hd' => by rw [honly j' o' ho' hd']; exact hjun, hA.old t fun i' o' _ h2 ho' hd' => by
        have := honly i' o' ho' hd'
        omega]
  · rw [hold t fun j o' ho' hd' => absurd ⟨j, o', ho', hd'⟩ hw, hA.old t fun i' o' _ _ ho' hd' => hw ⟨i', o', ho', hd'⟩]
theorem closed_step {listed : Array Bool} (hcl : Closed ops listed) {i : Nat} {o : Oper} (ho : ops[i]? = some o) (hready : ∀ e ∈ o.after, Region.binds .any e = true → listed.getD e.on false = true) : Closed ops (listed.setIfInBounds i true) := by
  intro j oj hoj hl e he hb
  by_cases hij : i = j
  · subst hij
    obtain rfl : oj = o := Option.some.inj (hoj.symm.trans ho)
    exact getD_set_true (hready e he hb)
  · rw [getD_set_ne false hij] at hl
    exact getD_set_true (hcl j oj hoj hl e he hb)
theorem fits_step {a0 F : Act} {listed : Array Bool} {a : Act} (hls : listed.size = ops.size) (hf : Fits ops a0 F listed a) {i : Nat} {o : Oper} (ho : ops[i]? = some o) (v : Value) (hv : F.put o.dst v = F) : Fits ops a0 F (listed.setIfInBounds i true) (a.put o.dst v) := by
  obtain ⟨hsz, hdf, hnew, hold⟩ := hf
  have hilt := (Array.getElem?_eq_some_iff.1 ho).1
  have hset : (listed.setIfInBounds i true).getD i false = true := by
    have hi' : i < listed.size := by omega
    simp [hi']
  refine ⟨by rw [put_size]; exact hsz, by rw [put_def]; exact hdf, fun t j oj hoj hd hl => ?_, fun t ht => ?_⟩
  · by_cases htd : o.dst = some t
    · rw [htd] at hv ⊢
      rw [← congrArg (fun x : Act => x.tmps[t]?) hv]
      simp only [Act.put, Array.getElem?_setIfInBounds, hsz]
      by_cases hb : t < F.tmps.size
      · simp [hb]
      · simp [hb]
    · rw [put_get_ne _ _ _ htd]
      have hij : i ≠ j := by
        rintro rfl
        obtain rfl : oj = o := Option.some.inj (hoj.symm.trans ho)
        exact htd hd
      rw [getD_set_ne false hij] at hl
      exact hnew t j oj hoj hd hl
  · have htd : o.dst ≠ some t := fun hd => by
      have := ht i o ho hd
      rw [hset] at this
      cases this
    rw [put_get_ne _ _ _ htd]
    refine hold t fun j oj hoj hd => ?_
    have hij : i ≠ j := by
      rintro rfl
      obtain rfl : oj = o := Option.some.inj (hoj.symm.trans ho)
      exact htd hd
    have := ht j oj hoj hd
    rwa [getD_set_ne false hij] at this
theorem stage_step {E : List Nat} {listed : Array Bool} (hch : chainE ops E = true) (hnd : E.Nodup) (hcl : Closed ops listed) (hls : listed.size = ops.size) {i : Nat} {o : Oper} (ho : ops[i]? = some o) (hun : listed.getD i false = false) (hready : ∀ e ∈ o.after, Region.binds .any e = true → listed.getD e.on false = true) :
    if i ∈ E then stage E listed = E.idxOf i ∧ stage E (listed.setIfInBounds i true) = E.idxOf i + 1 else stage E (listed.setIfInBounds i true) = stage E listed := by
  have hilt := (Array.getElem?_eq_some_iff.1 ho).1
  obtain ⟨s, hs, hs1, hs2⟩ := chain_pre hcl E hch
  have hst := stage_pre hs hs1 hs2
  have hset : (listed.setIfInBounds i true).getD i false = true := by
    have hi' : i < listed.size := by omega
    simp [hi']
  split
  · rename_i hE
    have hk : E.idxOf i < E.length := List.idxOf_lt_length_iff.2 hE
    have hg : E[E.idxOf i] = i := List.getElem_idxOf hk
    have hsi : s = E.idxOf i := by
      rcases Nat.lt_trichotomy s (E.idxOf i) with hlt | heq | hgt
      · exfalso
        -- i waits for E[s], which is not listed
        have hprev : ∀ d, d ≤ E.idxOf i - s → ∀ (hb : E.idxOf i - d < E.length), listed.getD (E[E.idxOf i - d]) false = false := by
          intro d hd hb
          have hm : E[E.idxOf i - d] ∈ E.drop s := by
            rw [List.mem_drop_iff_getElem]
            exact ⟨E.idxOf i - d - s, by omega, by congr 1; omega⟩
          exact hs2 _ hm
        have hp := hprev 1 (by omega) (by omega)
        have hpair : ∀ (l : List Nat), chainE ops l = true → ∀ (j : Nat) (hj : j + 1 < l.length), ∃ o, ops[l[j + 1]]? = some o ∧ waitsB o l[j] = true := by
          intro l
          induction l with
          | nil => intro _ j hj; simp at hj
          | cons x l ih =>
            intro hl j hj
            cases l with
            | nil => simp at hj
            | cons y r =>
              simp only [chainE, Bool.and_eq_true] at hl
              cases j with
              | zero =>
                cases hoy : ops[y]? with
                | none => simp [hoy] at hl
                | some oy => simp only [hoy] at hl; exact ⟨oy, by simpa using hoy, by simpa using hl.1⟩
              | succ j => exact ih hl.2 j (by simpa using hj)
        obtain ⟨o', ho', hw'⟩ := hpair E hch (E.idxOf i - 1) (by omega)
        have hidx : E[E.idxOf i - 1 + 1]'(by omega) = i := by
          have : E.idxOf i - 1 + 1 = E.idxOf i := by omega
          simp only [this, hg]
        rw [hidx] at ho'
        obtain rfl : o' = o := Option.some.inj (ho'.symm.trans ho)
        obtain ⟨x, hx, hb, hon⟩ := waitsB_spec hw'
        have := hready x hx hb
        rw [hon, hp] at this
        cases this
      · exact heq
      · exfalso
        have hm : i ∈ E.take s := by
          rw [List.mem_take_iff_getElem]
          exact ⟨E.idxOf i, by omega, hg⟩
        rw [hs1 i hm] at hun
        cases hun
    refine ⟨hst.trans hsi, ?_⟩
    rw [← hsi]
    refine stage_pre (by omega) ?_ ?_
    · intro e he
      rw [List.take_add_one, List.mem_append] at he
      rcases he with he | he
      · exact getD_set_true (hs1 e he)
      · rw [hsi, List.getElem?_eq_getElem hk, hg] at he
        simp at he
        rw [he]; exact hset
    · intro e he
      have hne : i ≠ e := by
        rintro rfl
        obtain ⟨j, hj, hje⟩ := List.mem_drop_iff_getElem.1 he
        have h3 : E[s + 1 + j]'(by omega) = E[E.idxOf i] := by rw [hg]; simpa [Nat.add_comm] using hje
        exact (List.pairwise_iff_getElem.1 hnd (E.idxOf i) (s + 1 + j) hk (by omega) (by omega)) h3.symm
      rw [getD_set_ne false hne]
      refine hs2 e ?_
      obtain ⟨j, hj, hje⟩ := List.mem_drop_iff_getElem.1 he
      exact List.mem_drop_iff_getElem.2 ⟨j + 1, by omega, by rw [← hje]; congr 1; omega⟩
  · rename_i hE
    unfold stage
    congr 1
    refine List.filter_congr fun e he => ?_
    have hne : i ≠ e := fun h => hE (h ▸ he)
    rw [getD_set_ne false hne]
theorem lo_step {E : List Nat} {listed : Array Bool} (hch : chainE ops E = true) (hcl : Closed ops listed) {o : Oper} (hready : ∀ e ∈ o.after, Region.binds .any e = true → listed.getD e.on false = true) : loOf E o ≤ stage E listed := by
  obtain ⟨s, hs, hs1, hs2⟩ := chain_pre hcl E hch
  have hst := stage_pre hs hs1 hs2
  refine loOf_le fun j e hj hw => ?_
  obtain ⟨x, hx, hb, hon⟩ := waitsB_spec hw
  have hl := hready x hx hb
  rw [hon] at hl
  rcases Nat.lt_or_ge j s with h1 | h1
  · rw [hst]; omega
  · exfalso
    obtain ⟨hjl, hje⟩ := List.getElem?_eq_some_iff.1 hj
    have hm : e ∈ E.drop s := List.mem_drop_iff_getElem.2 ⟨j - s, by omega, by rw [← hje]; congr 1; omega⟩
    rw [hs2 e hm] at hl
    cases hl
def plainB (o : Oper) : Bool := match o.op with
  | .move _ | .assign _ | .pick .. | .load .. | .binOp .. | .unOp .. | .convert .. | .slice .. | .fieldAddr .. | .field .. | .indexAddr .. | .index .. | .lookup .. | .extract .. | .typeAssert .. | .build .. | .makeInterface .. => true
  | .call c => match c.callee with
    | .builtin .len | .builtin .cap | .builtin .min | .builtin .max => true
    | _ => false
  | _ => false
theorem andThen_value {α : Type} {x : Result α} {f : α → World → Result Next} {r : Next} {w' : World} (hf : ∀ a w, ∃ u, f a w = .ok (.value u) w) (h : x.andThen f = .ok r w') : ∃ u, r = .value u := by
  cases x with
  | ok a w =>
    obtain ⟨u, hu⟩ := hf a w
    have h' : f a w = .ok r w' := h
    rw [hu] at h'
    injection h' with h1 _
    exact ⟨u, h1.symm⟩
  | halt _ _ => cases h
theorem run_value {s : Sem Value} {w w' : World} {r : Next} (h : ((do pure (.value (← s)) : Sem Next)).run P w = .ok r w') : ∃ u, r = .value u := by
  have e1 : ((do pure (.value (← s)) : Sem Next)).run P w = (s.run P w).andThen fun v w => .ok (.value v) w := by simp [go_sem]
  rw [e1] at h
  exact andThen_value (fun a w => ⟨_, rfl⟩) h
theorem plain_value {ρ : Operand → Value} {o : Oper} (h : plainB o = true) {w w' : World} {r : Next} (hr : (execOp ρ o).run P w = .ok r w') : ∃ u, r = .value u := by
  unfold execOp at hr
  unfold plainB at h
  cases hop : o.op <;> rw [hop] at h hr <;> first | (cases h; done) | skip
  all_goals first
    | (injection hr with h1 _; exact ⟨_, h1.symm⟩)
    | exact run_value hr
    | skip
  case pick c x y =>
    have hr : ((do pure (.value (if ← asBool (ρ c) then ρ x else ρ y)) : Sem Next)).run P w = .ok r w' := hr
    generalize asBool (ρ c) = z at hr
    have e1 : ((do pure (.value (if ← z then ρ x else ρ y)) : Sem Next)).run P w = (z.run P w).andThen fun b w => .ok (.value (if b = true then ρ x else ρ y)) w := by simp [go_sem]
    rw [e1] at hr
    exact andThen_value (fun a w => ⟨_, rfl⟩) hr
  case call c =>
    cases hc : c.callee <;> simp only [hc] at h <;> first | (cases h; done) | skip
    rename_i b
    have hr : ((do let d ← resolve ρ c o.type; invoke d.target d.args : Sem Next)).run P w = .ok r w' := hr
    unfold resolve at hr
    simp only [hc] at hr
    have hr : (builtin b c.argTypes o.type (c.args.map fun | .const _ => true | _ => false) (c.args.map ρ)).run P w = .ok r w' := hr
    unfold builtin at hr
    cases b <;> first | (cases h; done) | exact run_value hr
/-- what waits for i, also through others: one pass, as operations wait for earlier ones alone -/
def reachF (ops : Array Oper) (R : List Nat) (j : Nat) : List Nat := match ops[j]? with
  | some o => if o.after.any (fun x => Region.binds .any x && R.contains x.on) then j :: R else R
  | none => R
def hiR (ops : Array Oper) (E : List Nat) (i : Nat) : Nat :=
  let R := (List.range ops.size).foldl (reachF ops) [i]
  (E.zipIdx.map fun x => if R.contains x.1 then x.2 else E.length).foldl min E.length
theorem reach_un {listed : Array Bool} (hcl : Closed ops listed) : ∀ (l : List Nat) (R : List Nat), (∀ j ∈ R, listed.getD j false = false) → ∀ j ∈ l.foldl (reachF ops) R, listed.getD j false = false
  | [], _, h => h
  | j :: l, R, h => by
    refine reach_un hcl l _ ?_
    unfold reachF
    cases ho : ops[j]? with
    | none => exact h
    | some o =>
      dsimp only
      split
      · rename_i hany
        intro y hy
        rcases List.mem_cons.1 hy with rfl | hy
        · obtain ⟨x, hx, hb⟩ := Array.any_eq_true'.1 hany
          simp only [Bool.and_eq_true, List.contains_eq_mem, decide_eq_true_eq] at hb
          cases hl : listed.getD y false with
          | false => rfl
          | true =>
            have h1 := hcl y o ho hl x hx hb.1
            rw [h x.on hb.2] at h1
            cases h1
        · exact h y hy
      · exact h
theorem hiR_le {listed : Array Bool} {E : List Nat} (hcl : Closed ops listed) (hch : chainE ops E = true) (i : Nat) (hun : listed.getD i false = false) : stage E listed ≤ hiR ops E i := by
  obtain ⟨s, hs, hs1, hs2⟩ := chain_pre hcl E hch
  rw [stage_pre hs hs1 hs2]
  have hR := reach_un hcl (List.range ops.size) [i] (fun j hj => by rw [List.mem_singleton.1 hj]; exact hun)
  unfold hiR
  refine foldl_min _ _ hs fun x hx => ?_
  obtain ⟨⟨e, k⟩, hm, rfl⟩ := List.mem_map.1 hx
  have hk := List.mem_zipIdx_iff_getElem?.1 hm
  dsimp only
  split
  · rename_i hc
    have hu := hR e (by simpa using hc)
    rcases Nat.lt_or_ge k s with h1 | h1
    · exfalso
      obtain ⟨hkl, hke⟩ := List.getElem?_eq_some_iff.1 hk
      have hm : e ∈ E.take s := List.mem_take_iff_getElem.2 ⟨k, by omega, hke⟩
      rw [hs1 e hm] at hu
      cases hu
    · exact h1
  · exact hs
theorem wp_at3 {J : World → Prop} {a b : Act} {o : Oper} {vf : World → Value} {w : World} (h1 : o.wp P a w (fun a' w' => a' = a.put o.dst (vf w') ∧ J w') (fun _ _ _ => False)) (he : execOp b.eval o = execOp a.eval o) (hs : a.tmps.size = b.tmps.size) {Q : Exit → Act → World → Prop} :
    o.wp P b w (fun a' w' => a' = b.put o.dst (vf w') ∧ J w') Q := by
  unfold Oper.wp at *
  rw [he]
  generalize (execOp a.eval o).run P w = r at *
  cases r with
  | ok n w' =>
    cases n <;> simp only [Oper.upon] at h1 ⊢
    case value u => exact ⟨put_same hs h1.1, h1.2⟩
    case skip => exact ⟨put_same hs h1.1, h1.2⟩
    case defer d => exact (put_defers_ne h1.1).elim
    case enter f args =>
      refine Calls.mono h1 fun e w'' he => ?_
      cases e with
      | returned u => exact ⟨put_same hs he.1, he.2⟩
      | panicked c => exact he.elim
      | outgrown => exact (letsOut_false he).elim
    case row row args => exact Rows.mono h1 fun u w'' he => ⟨put_same hs he.1, he.2⟩
  | halt x w' => cases x <;> simp only [Oper.upon] at h1
section
variable (P : Program) (ops : Array Oper) (E : List Nat) (VE : Nat → World → World → Value) (Spec : Nat → World → World → Prop)
def Cl3 (g : Nat → World) (i : Nat) (o : Oper) (a : Act) (v : Value) : Prop :=
  if i ∈ E then v = VE (E.idxOf i) (g (E.idxOf i)) (g (E.idxOf i + 1)) ∧ o.wp P a (g (E.idxOf i)) (fun a' w' => a' = a.put o.dst (VE (E.idxOf i) (g (E.idxOf i)) w') ∧ Spec (E.idxOf i) (g (E.idxOf i)) w') (fun _ _ _ => False)
  else plainB o = true ∧ ∀ s, loOf E o ≤ s → s ≤ hiR ops E i → FixOp P (· = g s) a o v
/-- the operations in the order of the text, on the way g through the worlds -/
def fixRun3 (g : Nat → World) (K : Act → Prop) : List Oper → Nat → Act → Prop := fixRunG ops (Cl3 P ops E VE Spec g) (fun i => i ∉ E) K
def Ok3 (w0 : World) (g : Nat → World) : Prop := g 0 = w0 ∧ ∀ k, k < E.length → Spec k (g k) (g (k + 1))
def OnWay3 (w0 : World) (a0 : Act) (F : (Nat → World) → Act) (listed : Array Bool) (a : Act) (w : World) : Prop :=
  Closed ops listed ∧ listed.size = ops.size ∧ ∃ g, Ok3 E Spec w0 g ∧ w = g (stage E listed) ∧ ∀ g', Ok3 E Spec w0 g' → (∀ n, n ≤ stage E listed → g' n = g n) → Fits ops a0 (F g') listed a
end
def contW (nx : Nat → World → World) (k : Nat) (w' : World) : Nat → World | 0 => w' | m + 1 => nx (k + 1 + m) (contW nx k w' m)
theorem onWay3_step {E : List Nat} {VE : Nat → World → World → Value} {Spec : Nat → World → World → Prop} {w0 : World} {a0 : Act} {F : (Nat → World) → Act} (ok : FixOk2 ops) (hch : chainE ops E = true) (hnd : E.Nodup) (tot : ∀ k W, ∃ W', Spec k W W')
    (hfx : ∀ g, Ok3 E Spec w0 g → ∀ (j : Nat) (o : Oper), ops[j]? = some o → ∃ A, Before ops 0 j a0 (F g) A ∧ FixedG ops (Cl3 P ops E VE Spec g) (fun i => i ∉ E) (F g) A j o) {Q : Exit → Act → World → Prop} {listed : Array Bool} {a : Act} {w : World} (h : OnWay3 ops E Spec w0 a0 F listed a w) {i : Nat} (hi : i ∈ Region.ready .any ops listed) :
    wpOp P ops Q i (OnWay3 ops E Spec w0 a0 F (listed.setIfInBounds i true)) a w := by
  obtain ⟨hcl, hls, g, hg, rfl, hall⟩ := h
  obtain ⟨hun0, o, ho, hready⟩ := mem_ready.1 hi
  have hilt := (Array.getElem?_eq_some_iff.1 ho).1
  have hun : listed.getD i false = false := by
    have hi' : i < listed.size := by omega
    simp [hi'] at hun0 ⊢; exact hun0
  have hcl' := closed_step hcl ho hready
  have hls' : (listed.setIfInBounds i true).size = ops.size := by simpa using hls
  have hstep := stage_step hch hnd hcl hls ho hun hready
  have hlo := lo_step hch hcl hready
  have hhi := hiR_le hcl hch i hun
  obtain ⟨nx, hnx⟩ : ∃ nx : Nat → World → World, ∀ k W, Spec k W (nx k W) := ⟨fun k W => (tot k W).choose, fun k W => (tot k W).choose_spec⟩
  -- at each way that fits
  have at_ : ∀ g', Ok3 E Spec w0 g' → (∀ n, n ≤ stage E listed → g' n = g n) → ∃ A, execOp a.eval o = execOp A.eval o ∧ A.tmps.size = a.tmps.size ∧ Region.wanted o (yielded ops a.tmps) = Region.wanted o (yielded ops A.tmps) ∧ FixedG ops (Cl3 P ops E VE Spec g') (fun i => i ∉ E) (F g') A i o ∧ Fits ops a0 (F g') listed a := by
    intro g' h1 h2
    have hf := hall g' h1 h2
    obtain ⟨A, hA, hFA⟩ := hfx g' h1 i o ho
    have hlook := fits_look ok hcl hf ho hun hready hA
    exact ⟨A, exec_same ok.sel ho hlook, hA.size.trans hf.size.symm, wanted_same hlook, hFA, hf⟩
  obtain ⟨A, hex, hsz, hwa, hFA, hf⟩ := at_ g hg (fun _ _ => rfl)
  unfold wpOp
  simp only [ho]
  by_cases hw : Region.wanted o (yielded ops a.tmps) = true
  · rw [if_pos hw]
    by_cases hE : i ∈ E
    · rw [if_pos hE] at hstep
      obtain ⟨v, hv, hF⟩ := hFA.1 (by rw [← hwa]; exact hw)
      unfold Cl3 at hv
      rw [if_pos hE] at hv
      rw [hstep.1]
      refine .inl (Oper.wp_mono (fun a' w' h => ?_) (wp_at3 hv.2 hex hsz))
      obtain ⟨rfl, hs⟩ := h
      generalize hk : E.idxOf i = k at *
      refine ⟨hcl', hls', fun n => if n ≤ k then g n else contW nx k w' (n - (k + 1)), ⟨?_, ?_⟩, ?_, ?_⟩
      · show (if 0 ≤ k then g 0 else _) = w0
        rw [if_pos (Nat.zero_le _)]; exact hg.1
      · intro n hn
        rcases Nat.lt_trichotomy n k with h1 | h1 | h1
        · show Spec n (if n ≤ k then g n else _) (if n + 1 ≤ k then g (n + 1) else _)
          rw [if_pos (by omega), if_pos (by omega)]
          exact hg.2 n hn
        · subst h1
          show Spec n (if n ≤ n then g n else _) (if n + 1 ≤ n then g (n + 1) else contW nx n w' (n + 1 - (n + 1)))
          rw [if_pos (by omega), if_neg (by omega), Nat.sub_self]
          exact hs
        · show Spec n (if n ≤ k then g n else contW nx k w' (n - (k + 1))) (if n + 1 ≤ k then g (n + 1) else contW nx k w' (n + 1 - (k + 1)))
          rw [if_neg (by omega), if_neg (by omega), show n + 1 - (k + 1) = (n - (k + 1)) + 1 by omega]
          have := hnx n (contW nx k w' (n - (k + 1)))
          show Spec n _ (nx (k + 1 + (n - (k + 1))) _)
          rw [show k + 1 + (n - (k + 1)) = n by omega]
          exact this
      · rw [hstep.2]
        show w' = if k + 1 ≤ k then g (k + 1) else contW nx k w' (k + 1 - (k + 1))
        rw [if_neg (by omega), Nat.sub_self]
        rfl
      · intro g' h1 h2
        rw [hstep.2] at h2
        have h3 : ∀ n, n ≤ k → g' n = g n := fun n hn => by
          rw [h2 n (by omega)]
          show (if n ≤ k then g n else _) = g n
          rw [if_pos hn]
        have h4 : g' (k + 1) = w' := by
          rw [h2 (k + 1) (Nat.le_refl _)]
          show (if k + 1 ≤ k then g (k + 1) else contW nx k w' (k + 1 - (k + 1))) = w'
          rw [if_neg (by omega), Nat.sub_self]
          rfl
        obtain ⟨A', hex', hsz', hwa', hFA', hf'⟩ := at_ g' h1 (by rw [hstep.1]; exact h3)
        obtain ⟨v', hv', hF'⟩ := hFA'.1 (by rw [← hwa']; exact hw)
        unfold Cl3 at hv'
        rw [if_pos hE, hk, h3 k (Nat.le_refl _), h4] at hv'
        rw [hv'.1] at hF'
        exact fits_step hls hf' ho _ hF'
    · rw [if_neg hE] at hstep
      have one : ∀ g', Ok3 E Spec w0 g' → (∀ n, n ≤ stage E listed → g' n = g n) → ∃ v, (F g').put o.dst v = F g' ∧ plainB o = true ∧ o.wp P a (g (stage E listed)) (fun a' w' => a' = a.put o.dst v ∧ w' = g (stage E listed)) Q := by
        intro g' h1 h2
        obtain ⟨A', hex', hsz', hwa', hFA', hf'⟩ := at_ g' h1 h2
        obtain ⟨v', hv', hF'⟩ := hFA'.1 (by rw [← hwa']; exact hw)
        unfold Cl3 at hv'
        rw [if_neg hE] at hv'
        have h3 := (hv'.2 (stage E listed) hlo hhi).at_ hex' hsz' (Q := Q) (g (stage E listed)) (h2 _ (Nat.le_refl _)).symm
        rw [h2 _ (Nat.le_refl _)] at h3
        exact ⟨v', hF', hv'.1, h3⟩
      obtain ⟨v0, _, hpl, h0⟩ := one g hg (fun _ _ => rfl)
      have hpv := fun r w' => plain_value (P := P) (ρ := a.eval) hpl (w := g (stage E listed)) (w' := w') (r := r)
      refine .inl ?_
      unfold Oper.wp at h0 one ⊢
      generalize (execOp a.eval o).run P (g (stage E listed)) = r at *
      cases r with
      | halt x w' => cases x <;> simp only [Oper.upon] at h0 ⊢ <;> exact h0
      | ok n w' =>
        obtain ⟨u, rfl⟩ := hpv n w' rfl
        simp only [Oper.upon] at h0 one ⊢
        obtain ⟨_, rfl⟩ := h0
        refine ⟨hcl', hls', g, hg, by rw [hstep], fun g' h1 h2 => ?_⟩
        rw [hstep] at h2
        obtain ⟨v', hF', _, h3, _⟩ := one g' h1 h2
        rw [h3]
        exact fits_step hls (hall g' h1 h2) ho _ hF'
  · rw [if_neg hw]
    have hE : i ∉ E := (hFA.2 (by rw [← hwa]; simpa using hw)).1
    rw [if_neg hE] at hstep
    refine ⟨hcl', hls', g, hg, by rw [hstep], fun g' h1 h2 => ?_⟩
    rw [hstep] at h2
    obtain ⟨A', hex', hsz', hwa', hFA', hf'⟩ := at_ g' h1 h2
    exact fits_step hls hf' ho _ (hFA'.2 (by rw [← hwa']; simpa using hw)).2
theorem onWay3_any {E : List Nat} {VE : Nat → World → World → Value} {Spec : Nat → World → World → Prop} {w0 : World} {a0 : Act} {F : (Nat → World) → Act} (ok : FixOk2 ops) (hch : chainE ops E = true) (hnd : E.Nodup) (hEb : ∀ e ∈ E, e < ops.size) (tot : ∀ k W, ∃ W', Spec k W W')
    (hF0 : ∀ g, Ok3 E Spec w0 g → ∀ t : Nat, (∀ (j : Nat) (o : Oper), ops[j]? = some o → o.dst ≠ some t) → (F g).tmps[t]? = a0.tmps[t]?)
    (hfx : ∀ g, Ok3 E Spec w0 g → ∀ (j : Nat) (o : Oper), ops[j]? = some o → ∃ A, Before ops 0 j a0 (F g) A ∧ FixedG ops (Cl3 P ops E VE Spec g) (fun i => i ∉ E) (F g) A j o) {Q : Exit → Act → World → Prop} (hQ : ∀ g, Ok3 E Spec w0 g → Q .normal (F g) (g E.length)) :
    ∀ (fuel : Nat) (listed : Array Bool) (a : Act) (w : World), ((List.range ops.size).filter fun i => !listed.getD i true).length ≤ fuel → OnWay3 ops E Spec w0 a0 F listed a w → wpAny P .any ops Q fuel listed a w := by
  have fin : ∀ (listed : Array Bool) (a : Act) (w : World), Region.ready .any ops listed = [] → OnWay3 ops E Spec w0 a0 F listed a w → Q .normal a w := by
    intro listed a w hr ⟨hcl, hls, g, hg, hw, hall⟩
    have hf := hall g hg (fun _ _ => rfl)
    have hl := all_listed2 ok hr hls
    have hA : a = F g := act_ext hf.def_ fun t => by
      by_cases hw : ∃ (j : Nat) (o : Oper), ops[j]? = some o ∧ o.dst = some t
      · obtain ⟨j, o, ho, hd⟩ := hw
        exact hf.new t j o ho hd (hl j (Array.getElem?_eq_some_iff.1 ho).1)
      · rw [hf.old t fun j o ho hd => absurd ⟨j, o, ho, hd⟩ hw, hF0 g hg t fun j o ho hd => hw ⟨j, o, ho, hd⟩]
    have hS : stage E listed = E.length := by
      unfold stage
      rw [List.filter_eq_self.2 fun e he => hl e (hEb e he)]
    rw [hA, hw, hS]
    exact hQ g hg
  intro fuel
  induction fuel with
  | zero =>
    intro listed a w hc h
    have hr : Region.ready .any ops listed = [] := by
      cases hq : Region.ready .any ops listed with
      | nil => rfl
      | cons i l =>
        have hm : i ∈ Region.ready .any ops listed := by rw [hq]; simp
        obtain ⟨h0, o, ho, _⟩ := mem_ready.1 hm
        have : i ∈ (List.range ops.size).filter fun i => !listed.getD i true := List.mem_filter.2 ⟨List.mem_range.2 (Array.getElem?_eq_some_iff.1 ho).1, by simpa using h0⟩
        rw [List.eq_nil_of_length_eq_zero (Nat.le_zero.1 hc)] at this
        cases this
    exact ⟨hr, fin listed a w hr h⟩
  | succ fuel ih =>
    intro listed a w hc h
    refine ⟨fun hr => fin listed a w hr h, fun i hi => ?_⟩
    refine wpOp_mono (fun a' w' h' => ih (listed.setIfInBounds i true) a' w' ?_ h') (onWay3_step ok hch hnd tot hfx h hi)
    obtain ⟨h0, o, ho, _⟩ := mem_ready.1 hi
    have hilt := (Array.getElem?_eq_some_iff.1 ho).1
    have hls := h.2.1
    have hsub : ∀ (l : List Nat), l.Nodup → i ∈ l → (l.filter fun j => !(listed.setIfInBounds i true).getD j true).length < (l.filter fun j => !listed.getD j true).length := by
      intro l
      induction l with
      | nil => intro _ h; cases h
      | cons x l ihl =>
        intro hn hm
        rw [List.nodup_cons] at hn
        by_cases hx : x = i
        · subst hx
          have hrest : (l.filter fun j => !(listed.setIfInBounds x true).getD j true) = l.filter fun j => !listed.getD j true := by
            refine List.filter_congr fun j hj => ?_
            have hne : x ≠ j := fun e => hn.1 (e ▸ hj)
            rw [getD_set_ne true hne]
          have hxl : x < listed.size := by omega
          have h1 : (listed.setIfInBounds x true).getD x true = true := by simp [hxl]
          rw [List.filter_cons, List.filter_cons, hrest, h1, h0]
          simp
        · have hm' : i ∈ l := by
            rcases List.mem_cons.1 hm with e | e
            · exact absurd e.symm hx
            · exact e
          have := ihl hn.2 hm'
          rw [List.filter_cons, List.filter_cons, getD_set_ne true (Ne.symm hx)]
          split
          · simpa using this
          · exact this
    have := hsub (List.range ops.size) List.nodup_range (List.mem_range.2 hilt)
    omega
/-- THE RULE: E the places of the operations that change the world, VE what each yields (of the world before, the world behind), Spec what each does -/
theorem region_fix3 {id : Nat} {l : List Oper} {Q : Exit → Act → World → Prop} {a : Act} {w : World} (E : List Nat) (VE : Nat → World → World → Value) (Spec : Nat → World → World → Prop) (hm : P.follows .mixedOrders = true) (hB : (fixB2 l.toArray && chainE l.toArray E && decide (E.Nodup) && E.all (fun e => decide (e < l.toArray.size))) = true)
    (tot : ∀ k W, ∃ W', Spec k W W') (h : ∀ g : Nat → World, g 0 = w.drew → (∀ k, k < E.length → Spec k (g k) (g (k + 1))) → fixRun3 P l.toArray E VE Spec g (fun a' => Q .normal a' (g E.length)) l 0 a) : (Code.region id l.toArray true).wp P Q a w := by
  simp only [Bool.and_eq_true, decide_eq_true_eq, List.all_eq_true] at hB
  obtain ⟨⟨⟨hfix, hch⟩, hnd⟩, hEb⟩ := hB
  have ok := fixOk2 hfix
  have hh : ∀ g, Ok3 E Spec w.drew g → ∃ F : Act, Q .normal F (g E.length) ∧ F.tmps.size = a.tmps.size ∧ F.defers = a.defers ∧ (∀ t : Nat, (∀ (j : Nat) (o : Oper), 0 ≤ j → l.toArray[j]? = some o → o.dst ≠ some t) → F.tmps[t]? = a.tmps[t]?) ∧ ∀ (j : Nat) (o : Oper), 0 ≤ j → l.toArray[j]? = some o → ∃ A, Before l.toArray 0 j a F A ∧ FixedG l.toArray (Cl3 P l.toArray E VE Spec g) (fun i => i ∉ E) F A j o := fun g hg => fix_allG ok l 0 a (by simp) (h g hg.1 hg.2)
  classical
  let F : (Nat → World) → Act := fun g => if hg : Ok3 E Spec w.drew g then (hh g hg).choose else a
  have hF : ∀ g, Ok3 E Spec w.drew g → Q .normal (F g) (g E.length) ∧ (F g).tmps.size = a.tmps.size ∧ (F g).defers = a.defers ∧ (∀ t : Nat, (∀ (j : Nat) (o : Oper), 0 ≤ j → l.toArray[j]? = some o → o.dst ≠ some t) → (F g).tmps[t]? = a.tmps[t]?) ∧ ∀ (j : Nat) (o : Oper), 0 ≤ j → l.toArray[j]? = some o → ∃ A, Before l.toArray 0 j a (F g) A ∧ FixedG l.toArray (Cl3 P l.toArray E VE Spec g) (fun i => i ∉ E) (F g) A j o := by
    intro g hg
    have e : F g = (hh g hg).choose := dif_pos hg
    rw [e]
    exact (hh g hg).choose_spec
  clear_value F
  have hrep : ∀ j : Nat, (Array.replicate l.toArray.size false).getD j false = false := by
    intro j
    rw [Array.getD_eq_getD_getElem?, Array.getElem?_replicate]
    split <;> rfl
  have hst0 : stage E (Array.replicate l.toArray.size false) = 0 := by
    unfold stage
    rw [List.filter_eq_nil_iff.2 (fun e _ => by rw [hrep]; decide)]
    rfl
  obtain ⟨nx, hnx⟩ : ∃ nx : Nat → World → World, ∀ k W, Spec k W (nx k W) := ⟨fun k W => (tot k W).choose, fun k W => (tot k W).choose_spec⟩
  let g0 : Nat → World := fun n => Nat.rec w.drew (fun k W => nx k W) n
  have hg0 : Ok3 E Spec w.drew g0 := ⟨rfl, fun k _ => hnx k (g0 k)⟩
  refine wp_region_any hm (onWay3_any (a0 := a) (F := F) ok hch hnd hEb tot (fun g hg t ht => (hF g hg).2.2.2.1 t fun j o _ ho => ht j o ho) (fun g hg j o ho => (hF g hg).2.2.2.2 j o (Nat.zero_le _) ho) (fun g hg => (hF g hg).1) _ _ a _ ?_ ⟨?_, by simp, g0, hg0, by rw [hst0]; rfl, fun g' hg' _ => ⟨(hF g' hg').2.1.symm, (hF g' hg').2.2.1.symm, ?_, fun _ _ => rfl⟩⟩)
  · refine Nat.le_trans (List.length_filter_le _ _) (by simp)
  · intro j o _ hl
    rw [hrep] at hl
    cases hl
  · intro t j o _ _ hl
    rw [hrep] at hl
    cases hl
section
variable {E : List Nat} {VE : Nat → World → World → Value} {Spec : Nat → World → World → Prop} {g : Nat → World} {K : Act → Prop} {a : Act} {o : Oper} {rest : List Oper} {i : Nat}
theorem fix3_nil (h : K a) : fixRun3 P ops E VE Spec g K [] i a := h
theorem fix3_step (v : Value) (hE : (!decide (i ∈ E) && plainB o) = true) (hw : Region.wanted o (yielded ops a.tmps) = true)
    (h : ∀ (J : Act → World → Prop) (s : Nat), loOf E o ≤ s → s ≤ hiR ops E i → (∀ w, w = g s → J (a.put o.dst v) w) → o.wp P a (g s) J (fun _ _ _ => False)) (hr : ∀ J : Act → Prop, (∀ a', fixRun3 P ops E VE Spec g K rest (i + 1) a' → J a') → J (a.put o.dst v)) : fixRun3 P ops E VE Spec g K (o :: rest) i a := by
  simp only [Bool.and_eq_true, Bool.not_eq_true', decide_eq_false_iff_not] at hE
  unfold fixRun3 fixRunG
  rw [if_pos hw]
  refine ⟨v, ?_, hr _ fun _ h => h⟩
  unfold Cl3
  rw [if_neg hE.1]
  refine ⟨hE.2, fun s h1 h2 w hI => ?_⟩
  rw [hI]
  exact h _ s h1 h2 fun _ h => ⟨rfl, h⟩
theorem fix3_mid (v : Value) (lo hi : Nat) (hE : (!decide (i ∈ E) && plainB o && decide (hiR ops E i ≤ hi) && decide (lo ≤ loOf E o)) = true) (hw : Region.wanted o (yielded ops a.tmps) = true)
    (h : ∀ (J : Act → World → Prop) (s : Nat), lo ≤ s → s ≤ hi → (∀ w, w = g s → J (a.put o.dst v) w) → o.wp P a (g s) J (fun _ _ _ => False)) (hr : ∀ J : Act → Prop, (∀ a', fixRun3 P ops E VE Spec g K rest (i + 1) a' → J a') → J (a.put o.dst v)) : fixRun3 P ops E VE Spec g K (o :: rest) i a := by
  simp only [Bool.and_eq_true, Bool.not_eq_true', decide_eq_false_iff_not, decide_eq_true_eq] at hE
  refine fix3_step v (by simp [hE.1.1]) hw (fun J s h1 h2 hJ => h J s (by omega) (by omega) hJ) hr
/-- at one stage alone -/
theorem fix3_one (s : Nat) (hE : (!decide (i ∈ E) && plainB o && decide (hiR ops E i ≤ s) && decide (s ≤ loOf E o)) = true) (hw : Region.wanted o (yielded ops a.tmps) = true)
    (h : ∀ J : Act → Prop, (∀ a', fixRun3 P ops E VE Spec g K rest (i + 1) a' → J a') → o.still P a (g s) J) : fixRun3 P ops E VE Spec g K (o :: rest) i a := by
  simp only [Bool.and_eq_true, Bool.not_eq_true', decide_eq_false_iff_not, decide_eq_true_eq] at hE
  obtain ⟨⟨⟨hE, hpl⟩, hhi⟩, hlo⟩ := hE
  have h1 := h _ (fun _ h => h)
  have key : ∃ v, o.wp P a (g s) (fun a' w' => a' = a.put o.dst v ∧ w' = g s) (fun _ _ _ => False) ∧ fixRun3 P ops E VE Spec g K rest (i + 1) (a.put o.dst v) := by
    have hpv := fun r w' => plain_value (P := P) (ρ := a.eval) hpl (w := g s) (w' := w') (r := r)
    unfold Oper.still at h1
    unfold Oper.wp
    generalize (execOp a.eval o).run P (g s) = r at *
    cases r with
    | halt x w' => simp only [Oper.stillUpon] at h1
    | ok n w' =>
      obtain ⟨u, rfl⟩ := hpv n w' rfl
      simp only [Oper.stillUpon, Oper.upon] at h1 ⊢
      exact ⟨u, ⟨rfl, h1.1⟩, h1.2⟩
  obtain ⟨v, hv, hr⟩ := key
  unfold fixRun3 fixRunG
  rw [if_pos hw]
  refine ⟨v, ?_, hr⟩
  unfold Cl3
  rw [if_neg hE]
  refine ⟨hpl, fun s' h1 h2 w hI => ?_⟩
  obtain rfl : s' = s := by omega
  rw [hI]
  exact hv
theorem fix3_eff (k : Nat) (v : Value) (hv : VE k (g k) (g (k + 1)) = v) (hE : (decide (i ∈ E) && E.idxOf i == k) = true) (hw : Region.wanted o (yielded ops a.tmps) = true)
    (h : ∀ (J : Act → World → Prop), (∀ w', Spec k (g k) w' → J (a.put o.dst (VE k (g k) w')) w') → o.wp P a (g k) J (fun _ _ _ => False)) (hr : ∀ J : Act → Prop, (∀ a', fixRun3 P ops E VE Spec g K rest (i + 1) a' → J a') → J (a.put o.dst v)) : fixRun3 P ops E VE Spec g K (o :: rest) i a := by
  subst hv
  simp only [Bool.and_eq_true, decide_eq_true_eq, beq_iff_eq] at hE
  unfold fixRun3 fixRunG
  rw [if_pos hw]
  refine ⟨_, ?_, hr _ fun _ h => h⟩
  unfold Cl3
  rw [if_pos hE.1, hE.2]
  exact ⟨rfl, h _ fun w' hs => ⟨rfl, hs⟩⟩
theorem fix3_skip (hE : decide (i ∈ E) = false) (hw : Region.wanted o (yielded ops a.tmps) = false)
    (hr : fixRun3 P ops E VE Spec g K rest (i + 1) (a.put o.dst undef)) : fixRun3 P ops E VE Spec g K (o :: rest) i a := by
  unfold fixRun3 fixRunG
  rw [if_neg (by rw [hw]; decide)]
  exact ⟨by simpa using hE, hr⟩
end
end
end Go.Proofs.Ytclmdidgioggdaa.Cod
namespace Go.Proofs.Ytclmdidgioggdaa.Cod
section
variable {P : Program} {ops : Array Oper}
theorem wp_at4 {J : World → Value → Prop} {a b : Act} {o : Oper} {w : World} (h1 : o.wp P a w (fun a' w' => ∃ u, a' = a.put o.dst u ∧ J w' u) (fun _ _ _ => False)) (he : execOp b.eval o = execOp a.eval o) (hs : a.tmps.size = b.tmps.size) {Q : Exit → Act → World → Prop} :
    o.wp P b w (fun a' w' => ∃ u, a' = b.put o.dst u ∧ J w' u) Q := by
  unfold Oper.wp at *
  rw [he]
  generalize (execOp a.eval o).run P w = r at *
  cases r with
  | ok n w' =>
    cases n <;> simp only [Oper.upon] at h1 ⊢
    case value u => obtain ⟨u', h2, h3⟩ := h1; exact ⟨u', put_same hs h2, h3⟩
    case skip => obtain ⟨u', h2, h3⟩ := h1; exact ⟨u', put_same hs h2, h3⟩
    case defer d => obtain ⟨u', h2, h3⟩ := h1; exact (put_defers_ne h2).elim
    case enter f args =>
      refine Calls.mono h1 fun e w'' he => ?_
      cases e with
      | returned u => obtain ⟨u', h2, h3⟩ := he; exact ⟨u', put_same hs h2, h3⟩
      | panicked c => exact he.elim
      | outgrown => exact (letsOut_false he).elim
    case row row args => exact Rows.mono h1 fun u w'' he => by obtain ⟨u', h2, h3⟩ := he; exact ⟨u', put_same hs h2, h3⟩
  | halt x w' => cases x <;> simp only [Oper.upon] at h1
section
variable (P : Program) (ops : Array Oper) (E : List Nat) (Spec : Nat → World → World → Value → Prop)
def Cl4 (g : Nat → World × Value) (i : Nat) (o : Oper) (a : Act) (v : Value) : Prop :=
  if i ∈ E then v = (g (E.idxOf i + 1)).2 ∧ o.wp P a (g (E.idxOf i)).1 (fun a' w' => ∃ u, a' = a.put o.dst u ∧ Spec i (g (E.idxOf i)).1 w' u) (fun _ _ _ => False)
  else plainB o = true ∧ ∀ s, loOf E o ≤ s → s ≤ hiR ops E i → FixOp P (· = (g s).1) a o v
def fixRun4 (g : Nat → World × Value) (K : Act → Prop) : List Oper → Nat → Act → Prop := fixRunG ops (Cl4 P ops E Spec g) (fun i => i ∉ E) K
def Ok4 (w0 : World) (g : Nat → World × Value) : Prop := (g 0).1 = w0 ∧ ∀ k, k < E.length → Spec (E.getD k 0) (g k).1 (g (k + 1)).1 (g (k + 1)).2
end
/-- the orders: of the same places, each once, and whatever may come next is the next one of one of them -/
def esOk (ops : Array Oper) (Es : List (List Nat)) : Bool :=
  (Es.all fun E => decide E.Nodup && Es.all fun E' => E.all fun e => E'.contains e) &&
  Es.all fun E => (List.range E.length).all fun s => (E.drop s).all fun i =>
    (match ops[i]? with | some o => E.any fun e => waitsB o e && !(E.take s).contains e | none => false) || Es.any fun E' => E'.take s == E.take s && E'[s]? == some i
structure EsOk (ops : Array Oper) (Es : List (List Nat)) : Prop where
  nodup : ∀ E ∈ Es, E.Nodup
  perm : ∀ E ∈ Es, ∀ E' ∈ Es, ∀ e ∈ E, e ∈ E'
  next : ∀ E ∈ Es, ∀ s, ∀ i ∈ E.drop s, ∀ o, ops[i]? = some o → (∀ e ∈ E, waitsB o e = true → e ∈ E.take s) → ∃ E' ∈ Es, E'.take s = E.take s ∧ E'[s]? = some i
theorem esOk_spec {Es : List (List Nat)} (h : esOk ops Es = true) : EsOk ops Es := by
  simp only [esOk, Bool.and_eq_true, List.all_eq_true, decide_eq_true_eq, List.contains_eq_mem, List.mem_range] at h
  obtain ⟨h1, h2⟩ := h
  refine ⟨fun E hE => (h1 E hE).1, fun E hE E' hE' e he => (h1 E hE).2 E' hE' e he, fun E hE s i hi o ho hw => ?_⟩
  have hs : s < E.length := by
    rcases Nat.lt_or_ge s E.length with h | h
    · exact h
    · rw [List.drop_eq_nil_of_le h] at hi; cases hi
  have h3 := h2 E hE s hs i hi
  rw [ho] at h3
  simp only [Bool.or_eq_true, List.any_eq_true, Bool.and_eq_true, Bool.not_eq_true', decide_eq_false_iff_not, beq_iff_eq] at h3
  rcases h3 with ⟨e, he, hwe, hn⟩ | ⟨E', hE', h4, h5⟩
  · exact absurd (hw e he hwe) hn
  · exact ⟨E', hE', h4, h5⟩
def OnWay4 (ops : Array Oper) (Es : List (List Nat)) (Spec : Nat → World → World → Value → Prop) (w0 : World) (a0 : Act) (F : List Nat → (Nat → World × Value) → Act) (listed : Array Bool) (a : Act) (w : World) : Prop :=
  Closed ops listed ∧ listed.size = ops.size ∧ ∃ E ∈ Es, ∃ s, s ≤ E.length ∧ (∀ e ∈ E.take s, listed.getD e false = true) ∧ (∀ e ∈ E.drop s, listed.getD e false = false) ∧ ∃ g, Ok4 E Spec w0 g ∧ w = (g s).1 ∧
    ∀ E' ∈ Es, E'.take s = E.take s → ∀ g', Ok4 E' Spec w0 g' → (∀ n, n ≤ s → g' n = g n) → Fits ops a0 (F E' g') listed a
theorem lo4 {E : List Nat} {listed : Array Bool} {s : Nat} (hs2 : ∀ e ∈ E.drop s, listed.getD e false = false) {o : Oper} (hready : ∀ e ∈ o.after, Region.binds .any e = true → listed.getD e.on false = true) : loOf E o ≤ s := by
  refine loOf_le fun j e hj hw => ?_
  obtain ⟨x, hx, hb, hon⟩ := waitsB_spec hw
  have hl := hready x hx hb
  rw [hon] at hl
  rcases Nat.lt_or_ge j s with h1 | h1
  · omega
  · exfalso
    obtain ⟨hjl, hje⟩ := List.getElem?_eq_some_iff.1 hj
    have hm : e ∈ E.drop s := List.mem_drop_iff_getElem.2 ⟨j - s, by omega, by rw [← hje]; congr 1; omega⟩
    rw [hs2 e hm] at hl
    cases hl
theorem hi4 {listed : Array Bool} {E : List Nat} (hcl : Closed ops listed) {s : Nat} (hs : s ≤ E.length) (hs1 : ∀ e ∈ E.take s, listed.getD e false = true) (i : Nat) (hun : listed.getD i false = false) : s ≤ hiR ops E i := by
  have hR := reach_un hcl (List.range ops.size) [i] (fun j hj => by rw [List.mem_singleton.1 hj]; exact hun)
  unfold hiR
  refine foldl_min _ _ hs fun x hx => ?_
  obtain ⟨⟨e, k⟩, hm, rfl⟩ := List.mem_map.1 hx
  have hk := List.mem_zipIdx_iff_getElem?.1 hm
  dsimp only
  split
  · rename_i hc
    have hu := hR e (by simpa using hc)
    rcases Nat.lt_or_ge k s with h1 | h1
    · exfalso
      obtain ⟨hkl, hke⟩ := List.getElem?_eq_some_iff.1 hk
      have hm : e ∈ E.take s := List.mem_take_iff_getElem.2 ⟨k, by omega, hke⟩
      rw [hs1 e hm] at hu
      cases hu
    · exact h1
  · exact hs
/-- the way g up to s, then x, then on -/
def contG (nx : Nat → World → World × Value) (k : Nat) (x : World × Value) : Nat → World × Value | 0 => x | m + 1 => nx (k + 1 + m) (contG nx k x m).1
def joinG (g : Nat → World × Value) (nx : Nat → World → World × Value) (k : Nat) (x : World × Value) (n : Nat) : World × Value := if n ≤ k then g n else contG nx k x (n - (k + 1))
theorem join_old {g : Nat → World × Value} {nx : Nat → World → World × Value} {k n : Nat} {x : World × Value} (h : n ≤ k) : joinG g nx k x n = g n := if_pos h
theorem join_at {g : Nat → World × Value} {nx : Nat → World → World × Value} {k : Nat} {x : World × Value} : joinG g nx k x (k + 1) = x := by
  unfold joinG
  rw [if_neg (by omega), Nat.sub_self]
  rfl
theorem join_ok {E : List Nat} {Spec : Nat → World → World → Value → Prop} {w0 : World} {g : Nat → World × Value} {nx : Nat → World → World × Value} {k : Nat} {x : World × Value} (h0 : (g 0).1 = w0) (hnx : ∀ k W, Spec (E.getD k 0) W (nx k W).1 (nx k W).2)
    (hlt : ∀ n, n < k → Spec (E.getD n 0) (g n).1 (g (n + 1)).1 (g (n + 1)).2) (hx : Spec (E.getD k 0) (g k).1 x.1 x.2) : Ok4 E Spec w0 (joinG g nx k x) := by
  refine ⟨by rw [join_old (Nat.zero_le _)]; exact h0, fun n _ => ?_⟩
  rcases Nat.lt_trichotomy n k with h1 | h1 | h1
  · rw [join_old (by omega), join_old (by omega)]
    exact hlt n h1
  · subst h1
    rw [join_old (Nat.le_refl _), join_at]
    exact hx
  · unfold joinG
    rw [if_neg (by omega), if_neg (by omega), show n + 1 - (k + 1) = (n - (k + 1)) + 1 by omega]
    have := hnx n (contG nx k x (n - (k + 1))).1
    show Spec _ _ (nx (k + 1 + (n - (k + 1))) _).1 (nx (k + 1 + (n - (k + 1))) _).2
    rw [show k + 1 + (n - (k + 1)) = n by omega]
    exact this
theorem take_getD {E E' : List Nat} {s n : Nat} (h : E'.take s = E.take s) (hn : n < s) : E'.getD n 0 = E.getD n 0 := by
  have := congrArg (·[n]?) h
  simp only [List.getElem?_take, if_pos hn] at this
  rw [List.getD_eq_getElem?_getD, List.getD_eq_getElem?_getD, this]
theorem onWay4_step {Es : List (List Nat)} {Spec : Nat → World → World → Value → Prop} {w0 : World} {a0 : Act} {F : List Nat → (Nat → World × Value) → Act} (ok : FixOk2 ops) (hes : EsOk ops Es) (tot : ∀ i W, ∃ W' u, Spec i W W' u)
    (hfx : ∀ E ∈ Es, ∀ g, Ok4 E Spec w0 g → ∀ (j : Nat) (o : Oper), ops[j]? = some o → ∃ A, Before ops 0 j a0 (F E g) A ∧ FixedG ops (Cl4 P ops E Spec g) (fun i => i ∉ E) (F E g) A j o) {Q : Exit → Act → World → Prop} {listed : Array Bool} {a : Act} {w : World} (h : OnWay4 ops Es Spec w0 a0 F listed a w) {i : Nat} (hi : i ∈ Region.ready .any ops listed) :
    wpOp P ops Q i (OnWay4 ops Es Spec w0 a0 F (listed.setIfInBounds i true)) a w := by
  obtain ⟨hcl, hls, E, hE, s, hs, hs1, hs2, g, hg, rfl, hall⟩ := h
  obtain ⟨hun0, o, ho, hready⟩ := mem_ready.1 hi
  have hilt := (Array.getElem?_eq_some_iff.1 ho).1
  have hun : listed.getD i false = false := by
    have hi' : i < listed.size := by omega
    simp [hi'] at hun0 ⊢; exact hun0
  have hset : (listed.setIfInBounds i true).getD i false = true := by
    have hi' : i < listed.size := by omega
    simp [hi']
  have hcl' := closed_step hcl ho hready
  have hls' : (listed.setIfInBounds i true).size = ops.size := by simpa using hls
  have nxs : ∀ E : List Nat, ∃ nx : Nat → World → World × Value, ∀ k W, Spec (E.getD k 0) W (nx k W).1 (nx k W).2 := fun E => ⟨fun k W => ((tot (E.getD k 0) W).choose, (tot (E.getD k 0) W).choose_spec.choose), fun k W => (tot (E.getD k 0) W).choose_spec.choose_spec⟩
  -- the other orders that have begun alike
  have pre : ∀ E' ∈ Es, E'.take s = E.take s → s ≤ E'.length ∧ (∀ e ∈ E'.take s, listed.getD e false = true) ∧ (∀ e ∈ E'.drop s, listed.getD e false = false) := by
    intro E' hE' ht
    refine ⟨?_, fun e he => hs1 e (ht ▸ he), fun e he => ?_⟩
    · have := congrArg List.length ht
      simp only [List.length_take] at this
      omega
    · have h1 : e ∈ E := hes.perm E' hE' E hE e (List.mem_of_mem_drop he)
      rw [← List.take_append_drop s E, List.mem_append] at h1
      rcases h1 with h1 | h1
      · exfalso
        rw [← ht] at h1
        have hn := hes.nodup E' hE'
        rw [← List.take_append_drop s E', List.nodup_append] at hn
        exact hn.2.2 e h1 e he rfl
      · exact hs2 e h1
  have at_ : ∀ E' ∈ Es, E'.take s = E.take s → ∀ g', Ok4 E' Spec w0 g' → (∀ n, n ≤ s → g' n = g n) → ∃ A, execOp a.eval o = execOp A.eval o ∧ A.tmps.size = a.tmps.size ∧ Region.wanted o (yielded ops a.tmps) = Region.wanted o (yielded ops A.tmps) ∧ FixedG ops (Cl4 P ops E' Spec g') (fun i => i ∉ E') (F E' g') A i o ∧ Fits ops a0 (F E' g') listed a := by
    intro E' hE' ht g' h1 h2
    have hf := hall E' hE' ht g' h1 h2
    obtain ⟨A, hA, hFA⟩ := hfx E' hE' g' h1 i o ho
    have hlook := fits_look ok hcl hf ho hun hready hA
    exact ⟨A, exec_same ok.sel ho hlook, hA.size.trans hf.size.symm, wanted_same hlook, hFA, hf⟩
  unfold wpOp
  simp only [ho]
  by_cases hiE : i ∈ E
  · have hid : i ∈ E.drop s := by
      have h1 := hiE
      rw [← List.take_append_drop s E, List.mem_append] at h1
      rcases h1 with h1 | h1
      · rw [hs1 i h1] at hun; cases hun
      · exact h1
    obtain ⟨E2, hE2, ht2, hat2⟩ := hes.next E hE s i hid o ho (fun e he hw => by
      obtain ⟨x, hx, hb, hon⟩ := waitsB_spec hw
      have hl := hready x hx hb
      rw [hon] at hl
      rw [← List.take_append_drop s E, List.mem_append] at he
      rcases he with he | he
      · exact he
      · rw [hs2 e he] at hl; cases hl)
    have idx : ∀ E' ∈ Es, E'[s]? = some i → E'.idxOf i = s ∧ i ∈ E' ∧ s < E'.length ∧ E'.getD s 0 = i := by
      intro E' hE' h
      obtain ⟨hl, he⟩ := List.getElem?_eq_some_iff.1 h
      have hm : i ∈ E' := he ▸ List.getElem_mem hl
      refine ⟨?_, hm, hl, by rw [List.getD_eq_getElem?_getD, h]; rfl⟩
      have hk : E'.idxOf i < E'.length := List.idxOf_lt_length_iff.2 hm
      have hg : E'[E'.idxOf i] = i := List.getElem_idxOf hk
      have hn := hes.nodup E' hE'
      rcases Nat.lt_trichotomy (E'.idxOf i) s with h1 | h1 | h1
      · exact absurd (hg.trans he.symm) (List.pairwise_iff_getElem.1 hn _ _ hk hl h1)
      · exact h1
      · exact absurd (he.trans hg.symm) (List.pairwise_iff_getElem.1 hn _ _ hl hk h1)
    obtain ⟨hi2, hm2, hl2, hgd2⟩ := idx E2 hE2 hat2
    obtain ⟨nx, hnx⟩ := nxs E2
    obtain ⟨W1, u1, hw1⟩ := tot (E2.getD s 0) (g s).1
    have hok2 : Ok4 E2 Spec w0 (joinG g nx s (W1, u1)) := join_ok hg.1 hnx (fun n hn => by rw [take_getD ht2 hn]; exact hg.2 n (by omega)) hw1
    obtain ⟨A, hex, hsz, hwa, hFA, hf⟩ := at_ E2 hE2 ht2 _ hok2 (fun n hn => join_old hn)
    by_cases hw : Region.wanted o (yielded ops a.tmps) = true
    · rw [if_pos hw]
      obtain ⟨v, hv, _⟩ := hFA.1 (by rw [← hwa]; exact hw)
      unfold Cl4 at hv
      rw [if_pos hm2, hi2, join_old (Nat.le_refl _)] at hv
      refine .inl (Oper.wp_mono (fun a' w' h => ?_) (wp_at4 hv.2 hex hsz))
      obtain ⟨u, rfl, hsp⟩ := h
      obtain ⟨hsl, hp1, hp2⟩ := pre E2 hE2 ht2
      refine ⟨hcl', hls', E2, hE2, s + 1, hl2, ?_, ?_, joinG g nx s (w', u), join_ok hg.1 hnx (fun n hn => by rw [take_getD ht2 hn]; exact hg.2 n (by omega)) (by rw [hgd2]; exact hsp), by rw [join_at], ?_⟩
      · intro e he
        rw [List.take_add_one, List.mem_append] at he
        rcases he with he | he
        · exact getD_set_true (hp1 e he)
        · rw [hat2] at he
          simp at he
          rw [he]; exact hset
      · intro e he
        have hd : e ∈ E2.drop s := by
          obtain ⟨j, hj, hje⟩ := List.mem_drop_iff_getElem.1 he
          exact List.mem_drop_iff_getElem.2 ⟨j + 1, by omega, by rw [← hje]; congr 1; omega⟩
        have hne : i ≠ e := by
          rintro rfl
          obtain ⟨j, hj, hje⟩ := List.mem_drop_iff_getElem.1 he
          obtain ⟨_, he2⟩ := List.getElem?_eq_some_iff.1 hat2
          have h5 : E2[s + 1 + j]'(by omega) = i := by simpa [Nat.add_comm] using hje
          exact (List.pairwise_iff_getElem.1 (hes.nodup E2 hE2) s (s + 1 + j) hl2 (by omega) (by omega)) (he2.trans h5.symm)
        rw [getD_set_ne false hne]
        exact hp2 e hd
      · intro E' hE' ht g' h1 h2
        have ht' : E'.take s = E.take s := by
          have := congrArg (List.take s) ht
          rw [List.take_take, List.take_take, Nat.min_eq_left (by omega)] at this
          rw [this, ht2]
        have hat' : E'[s]? = some i := by
          have := congrArg (·[s]?) ht
          simpa only [List.getElem?_take, Nat.lt_add_one, if_true, hat2] using this
        obtain ⟨hi', hm', _, _⟩ := idx E' hE' hat'
        have h3 : ∀ n, n ≤ s → g' n = g n := fun n hn => by rw [h2 n (by omega), join_old hn]
        have h4 : g' (s + 1) = (w', u) := by rw [h2 (s + 1) (Nat.le_refl _), join_at]
        obtain ⟨A', hex', hsz', hwa', hFA', hf'⟩ := at_ E' hE' ht' g' h1 h3
        obtain ⟨v', hv', hF'⟩ := hFA'.1 (by rw [← hwa']; exact hw)
        unfold Cl4 at hv'
        rw [if_pos hm', hi', h4] at hv'
        rw [hv'.1] at hF'
        exact fits_step hls hf' ho _ hF'
    · exact absurd hm2 (hFA.2 (by rw [← hwa]; simpa using hw)).1
  · have hiE' : ∀ E' ∈ Es, i ∉ E' := fun E' hE' hm => hiE (hes.perm E' hE' E hE i hm)
    have hs1' : ∀ e ∈ E.take s, (listed.setIfInBounds i true).getD e false = true := fun e he => getD_set_true (hs1 e he)
    have hs2' : ∀ e ∈ E.drop s, (listed.setIfInBounds i true).getD e false = false := fun e he => by
      rw [getD_set_ne false (fun h => hiE (by rw [h]; exact List.mem_of_mem_drop he))]
      exact hs2 e he
    obtain ⟨A, hex, hsz, hwa, hFA, hf⟩ := at_ E hE rfl g hg (fun _ _ => rfl)
    by_cases hw : Region.wanted o (yielded ops a.tmps) = true
    · rw [if_pos hw]
      have one : ∀ E' ∈ Es, E'.take s = E.take s → ∀ g', Ok4 E' Spec w0 g' → (∀ n, n ≤ s → g' n = g n) → ∃ v, (F E' g').put o.dst v = F E' g' ∧ plainB o = true ∧ o.wp P a (g s).1 (fun a' w' => a' = a.put o.dst v ∧ w' = (g s).1) Q := by
        intro E' hE' ht g' h1 h2
        obtain ⟨A', hex', hsz', hwa', hFA', hf'⟩ := at_ E' hE' ht g' h1 h2
        obtain ⟨hsl, hp1, hp2⟩ := pre E' hE' ht
        obtain ⟨v', hv', hF'⟩ := hFA'.1 (by rw [← hwa']; exact hw)
        unfold Cl4 at hv'
        rw [if_neg (hiE' E' hE')] at hv'
        have h3 := (hv'.2 s (lo4 hp2 hready) (hi4 hcl hsl hp1 i hun)).at_ hex' hsz' (Q := Q) (g s).1 (by rw [h2 _ (Nat.le_refl _)])
        rw [h2 _ (Nat.le_refl _)] at h3
        exact ⟨v', hF', hv'.1, h3⟩
      obtain ⟨v0, _, hpl, h0⟩ := one E hE rfl g hg (fun _ _ => rfl)
      have hpv := fun r w' => plain_value (P := P) (ρ := a.eval) hpl (w := (g s).1) (w' := w') (r := r)
      refine .inl ?_
      unfold Oper.wp at h0 one ⊢
      generalize (execOp a.eval o).run P (g s).1 = r at *
      cases r with
      | halt x w' => cases x <;> simp only [Oper.upon] at h0 ⊢ <;> exact h0
      | ok n w' =>
        obtain ⟨u, rfl⟩ := hpv n w' rfl
        simp only [Oper.upon] at h0 one ⊢
        obtain ⟨_, rfl⟩ := h0
        refine ⟨hcl', hls', E, hE, s, hs, hs1', hs2', g, hg, rfl, fun E' hE' ht g' h1 h2 => ?_⟩
        obtain ⟨v', hF', _, h3, _⟩ := one E' hE' ht g' h1 h2
        rw [h3]
        exact fits_step hls (hall E' hE' ht g' h1 h2) ho _ hF'
    · rw [if_neg hw]
      refine ⟨hcl', hls', E, hE, s, hs, hs1', hs2', g, hg, rfl, fun E' hE' ht g' h1 h2 => ?_⟩
      obtain ⟨A', hex', hsz', hwa', hFA', hf'⟩ := at_ E' hE' ht g' h1 h2
      exact fits_step hls hf' ho _ (hFA'.2 (by rw [← hwa']; simpa using hw)).2
theorem onWay4_any {Es : List (List Nat)} {Spec : Nat → World → World → Value → Prop} {w0 : World} {a0 : Act} {F : List Nat → (Nat → World × Value) → Act} (ok : FixOk2 ops) (hes : EsOk ops Es) (hEb : ∀ E ∈ Es, ∀ e ∈ E, e < ops.size) (tot : ∀ i W, ∃ W' u, Spec i W W' u)
    (hF0 : ∀ E ∈ Es, ∀ g, Ok4 E Spec w0 g → ∀ t : Nat, (∀ (j : Nat) (o : Oper), ops[j]? = some o → o.dst ≠ some t) → (F E g).tmps[t]? = a0.tmps[t]?)
    (hfx : ∀ E ∈ Es, ∀ g, Ok4 E Spec w0 g → ∀ (j : Nat) (o : Oper), ops[j]? = some o → ∃ A, Before ops 0 j a0 (F E g) A ∧ FixedG ops (Cl4 P ops E Spec g) (fun i => i ∉ E) (F E g) A j o) {Q : Exit → Act → World → Prop} (hQ : ∀ E ∈ Es, ∀ g, Ok4 E Spec w0 g → Q .normal (F E g) (g E.length).1) :
    ∀ (fuel : Nat) (listed : Array Bool) (a : Act) (w : World), ((List.range ops.size).filter fun i => !listed.getD i true).length ≤ fuel → OnWay4 ops Es Spec w0 a0 F listed a w → wpAny P .any ops Q fuel listed a w := by
  have fin : ∀ (listed : Array Bool) (a : Act) (w : World), Region.ready .any ops listed = [] → OnWay4 ops Es Spec w0 a0 F listed a w → Q .normal a w := by
    intro listed a w hr ⟨hcl, hls, E, hE, s, hs, hs1, hs2, g, hg, hw, hall⟩
    have hf := hall E hE rfl g hg (fun _ _ => rfl)
    have hl := all_listed2 ok hr hls
    have hA : a = F E g := act_ext hf.def_ fun t => by
      by_cases hw : ∃ (j : Nat) (o : Oper), ops[j]? = some o ∧ o.dst = some t
      · obtain ⟨j, o, ho, hd⟩ := hw
        exact hf.new t j o ho hd (hl j (Array.getElem?_eq_some_iff.1 ho).1)
      · rw [hf.old t fun j o ho hd => absurd ⟨j, o, ho, hd⟩ hw, hF0 E hE g hg t fun j o ho hd => hw ⟨j, o, ho, hd⟩]
    have hS : s = E.length := by
      rcases Nat.lt_or_ge s E.length with h | h
      · exfalso
        have hm : E[s] ∈ E.drop s := List.mem_drop_iff_getElem.2 ⟨0, by omega, by congr 1⟩
        have h1 := hs2 _ hm
        rw [hl _ (hEb E hE _ (List.getElem_mem h))] at h1
        cases h1
      · omega
    rw [hA, hw, hS]
    exact hQ E hE g hg
  intro fuel
  induction fuel with
  | zero =>
    intro listed a w hc h
    have hr : Region.ready .any ops listed = [] := by
      cases hq : Region.ready .any ops listed with
      | nil => rfl
      | cons i l =>
        have hm : i ∈ Region.ready .any ops listed := by rw [hq]; simp
        obtain ⟨h0, o, ho, _⟩ := mem_ready.1 hm
        have : i ∈ (List.range ops.size).filter fun i => !listed.getD i true := List.mem_filter.2 ⟨List.mem_range.2 (Array.getElem?_eq_some_iff.1 ho).1, by simpa using h0⟩
        rw [List.eq_nil_of_length_eq_zero (Nat.le_zero.1 hc)] at this
        cases this
    exact ⟨hr, fin listed a w hr h⟩
  | succ fuel ih =>
    intro listed a w hc h
    refine ⟨fun hr => fin listed a w hr h, fun i hi => ?_⟩
    refine wpOp_mono (fun a' w' h' => ih (listed.setIfInBounds i true) a' w' ?_ h') (onWay4_step ok hes tot hfx h hi)
    obtain ⟨h0, o, ho, _⟩ := mem_ready.1 hi
    have hilt := (Array.getElem?_eq_some_iff.1 ho).1
    have hls := h.2.1
    have hsub : ∀ (l : List Nat), l.Nodup → i ∈ l → (l.filter fun j => !(listed.setIfInBounds i true).getD j true).length < (l.filter fun j => !listed.getD j true).length := by
      intro l
      induction l with
      | nil => intro _ h; cases h
      | cons x l ihl =>
        intro hn hm
        rw [List.nodup_cons] at hn
        by_cases hx : x = i
        · subst hx
          have hrest : (l.filter fun j => !(listed.setIfInBounds x true).getD j true) = l.filter fun j => !listed.getD j true := by
            refine List.filter_congr fun j hj => ?_
            have hne : x ≠ j := fun e => hn.1 (e ▸ hj)
            rw [getD_set_ne true hne]
          have hxl : x < listed.size := by omega
          have h1 : (listed.setIfInBounds x true).getD x true = true := by simp [hxl]
          rw [List.filter_cons, List.filter_cons, hrest, h1, h0]
          simp
        · have hm' : i ∈ l := by
            rcases List.mem_cons.1 hm with e | e
            · exact absurd e.symm hx
            · exact e
          have := ihl hn.2 hm'
          rw [List.filter_cons, List.filter_cons, getD_set_ne true (Ne.symm hx)]
          split
          · simpa using this
          · exact this
    have := hsub (List.range ops.size) List.nodup_range (List.mem_range.2 hilt)
    omega
/-- THE RULE: Es the orders in which the operations that change the world may come; Spec what each does, and yields -/
theorem region_fix4 {id : Nat} {l : List Oper} {Q : Exit → Act → World → Prop} {a : Act} {w : World} (Es : List (List Nat)) (E0 : List Nat) (hE0 : Es.head? = some E0) (Spec : Nat → World → World → Value → Prop) (hm : P.follows .mixedOrders = true) (hB : (fixB2 l.toArray && esOk l.toArray Es && Es.all (fun E => E.all fun e => decide (e < l.toArray.size))) = true)
    (tot : ∀ i W, ∃ W' u, Spec i W W' u) (h : ∀ E ∈ Es, ∀ g : Nat → World × Value, (g 0).1 = w.drew → (∀ k, k < E.length → Spec (E.getD k 0) (g k).1 (g (k + 1)).1 (g (k + 1)).2) → fixRun4 P l.toArray E Spec g (fun a' => Q .normal a' (g E.length).1) l 0 a) : (Code.region id l.toArray true).wp P Q a w := by
  simp only [Bool.and_eq_true, decide_eq_true_eq, List.all_eq_true] at hB
  obtain ⟨⟨hfix, hes⟩, hEb⟩ := hB
  have ok := fixOk2 hfix
  have hes := esOk_spec hes
  have hE0m : E0 ∈ Es := List.mem_of_mem_head? hE0
  have hh : ∀ E ∈ Es, ∀ g, Ok4 E Spec w.drew g → ∃ F : Act, Q .normal F (g E.length).1 ∧ F.tmps.size = a.tmps.size ∧ F.defers = a.defers ∧ (∀ t : Nat, (∀ (j : Nat) (o : Oper), 0 ≤ j → l.toArray[j]? = some o → o.dst ≠ some t) → F.tmps[t]? = a.tmps[t]?) ∧ ∀ (j : Nat) (o : Oper), 0 ≤ j → l.toArray[j]? = some o → ∃ A, Before l.toArray 0 j a F A ∧ FixedG l.toArray (Cl4 P l.toArray E Spec g) (fun i => i ∉ E) F A j o := fun E hE g hg => fix_allG ok l 0 a (by simp) (h E hE g hg.1 hg.2)
  classical
  let F : List Nat → (Nat → World × Value) → Act := fun E g => if hg : E ∈ Es ∧ Ok4 E Spec w.drew g then (hh E hg.1 g hg.2).choose else a
  have hF : ∀ E ∈ Es, ∀ g, Ok4 E Spec w.drew g → Q .normal (F E g) (g E.length).1 ∧ (F E g).tmps.size = a.tmps.size ∧ (F E g).defers = a.defers ∧ (∀ t : Nat, (∀ (j : Nat) (o : Oper), 0 ≤ j → l.toArray[j]? = some o → o.dst ≠ some t) → (F E g).tmps[t]? = a.tmps[t]?) ∧ ∀ (j : Nat) (o : Oper), 0 ≤ j → l.toArray[j]? = some o → ∃ A, Before l.toArray 0 j a (F E g) A ∧ FixedG l.toArray (Cl4 P l.toArray E Spec g) (fun i => i ∉ E) (F E g) A j o := by
    intro E hE g hg
    have e : F E g = (hh E hE g hg).choose := dif_pos ⟨hE, hg⟩
    rw [e]
    exact (hh E hE g hg).choose_spec
  clear_value F
  have hrep : ∀ j : Nat, (Array.replicate l.toArray.size false).getD j false = false := by
    intro j
    rw [Array.getD_eq_getD_getElem?, Array.getElem?_replicate]
    split <;> rfl
  obtain ⟨nx, hnx⟩ : ∃ nx : Nat → World → World × Value, ∀ k W, Spec (E0.getD k 0) W (nx k W).1 (nx k W).2 := ⟨fun k W => ((tot (E0.getD k 0) W).choose, (tot (E0.getD k 0) W).choose_spec.choose), fun k W => (tot (E0.getD k 0) W).choose_spec.choose_spec⟩
  let g0 : Nat → World × Value := fun n => Nat.rec (w.drew, undef) (fun k x => nx k x.1) n
  have hg0 : Ok4 E0 Spec w.drew g0 := ⟨rfl, fun k _ => hnx k (g0 k).1⟩
  refine wp_region_any hm (onWay4_any (a0 := a) (F := F) ok hes (fun E hE e he => hEb E hE e he) tot (fun E hE g hg t ht => (hF E hE g hg).2.2.2.1 t fun j o _ ho => ht j o ho) (fun E hE g hg j o ho => (hF E hE g hg).2.2.2.2 j o (Nat.zero_le _) ho) (fun E hE g hg => (hF E hE g hg).1) _ _ a _ ?_ ⟨?_, by simp, E0, hE0m, 0, Nat.zero_le _, by simp, fun e _ => hrep e, g0, hg0, rfl, fun E' hE' _ g' hg' _ => ⟨(hF E' hE' g' hg').2.1.symm, (hF E' hE' g' hg').2.2.1.symm, ?_, fun _ _ => rfl⟩⟩)
  · refine Nat.le_trans (List.length_filter_le _ _) (by simp)
  · intro j o _ hl
    rw [hrep] at hl
    cases hl
  · intro t j o _ _ hl
    rw [hrep] at hl
    cases hl
section
variable {E : List Nat} {Spec : Nat → World → World → Value → Prop} {g : Nat → World × Value} {K : Act → Prop} {a : Act} {o : Oper} {rest : List Oper} {i : Nat}
theorem fix4_nil (h : K a) : fixRun4 P ops E Spec g K [] i a := h
theorem fix4_step (v : Value) (hE : (!decide (i ∈ E) && plainB o) = true) (hw : Region.wanted o (yielded ops a.tmps) = true)
    (h : ∀ (J : Act → World → Prop) (s : Nat), loOf E o ≤ s → s ≤ hiR ops E i → (∀ w, w = (g s).1 → J (a.put o.dst v) w) → o.wp P a (g s).1 J (fun _ _ _ => False)) (hr : ∀ J : Act → Prop, (∀ a', fixRun4 P ops E Spec g K rest (i + 1) a' → J a') → J (a.put o.dst v)) : fixRun4 P ops E Spec g K (o :: rest) i a := by
  simp only [Bool.and_eq_true, Bool.not_eq_true', decide_eq_false_iff_not] at hE
  unfold fixRun4 fixRunG
  rw [if_pos hw]
  refine ⟨v, ?_, hr _ fun _ h => h⟩
  unfold Cl4
  rw [if_neg hE.1]
  refine ⟨hE.2, fun s h1 h2 w hI => ?_⟩
  rw [hI]
  exact h _ s h1 h2 fun _ h => ⟨rfl, h⟩
theorem fix4_mid (v : Value) (lo hi : Nat) (hE : (!decide (i ∈ E) && plainB o && decide (hiR ops E i ≤ hi) && decide (lo ≤ loOf E o)) = true) (hw : Region.wanted o (yielded ops a.tmps) = true)
    (h : ∀ (J : Act → World → Prop) (s : Nat), lo ≤ s → s ≤ hi → (∀ w, w = (g s).1 → J (a.put o.dst v) w) → o.wp P a (g s).1 J (fun _ _ _ => False)) (hr : ∀ J : Act → Prop, (∀ a', fixRun4 P ops E Spec g K rest (i + 1) a' → J a') → J (a.put o.dst v)) : fixRun4 P ops E Spec g K (o :: rest) i a := by
  simp only [Bool.and_eq_true, Bool.not_eq_true', decide_eq_false_iff_not, decide_eq_true_eq] at hE
  refine fix4_step v (by simp [hE.1.1]) hw (fun J s h1 h2 hJ => h J s (by omega) (by omega) hJ) hr
/-- at one stage alone -/
theorem fix4_one (s : Nat) (hE : (!decide (i ∈ E) && plainB o && decide (hiR ops E i ≤ s) && decide (s ≤ loOf E o)) = true) (hw : Region.wanted o (yielded ops a.tmps) = true)
    (h : ∀ J : Act → Prop, (∀ a', fixRun4 P ops E Spec g K rest (i + 1) a' → J a') → o.still P a (g s).1 J) : fixRun4 P ops E Spec g K (o :: rest) i a := by
  simp only [Bool.and_eq_true, Bool.not_eq_true', decide_eq_false_iff_not, decide_eq_true_eq] at hE
  obtain ⟨⟨⟨hE, hpl⟩, hhi⟩, hlo⟩ := hE
  have h1 := h _ (fun _ h => h)
  have key : ∃ v, o.wp P a (g s).1 (fun a' w' => a' = a.put o.dst v ∧ w' = (g s).1) (fun _ _ _ => False) ∧ fixRun4 P ops E Spec g K rest (i + 1) (a.put o.dst v) := by
    have hpv := fun r w' => plain_value (P := P) (ρ := a.eval) hpl (w := (g s).1) (w' := w') (r := r)
    unfold Oper.still at h1
    unfold Oper.wp
    generalize (execOp a.eval o).run P (g s).1 = r at *
    cases r with
    | halt x w' => simp only [Oper.stillUpon] at h1
    | ok n w' =>
      obtain ⟨u, rfl⟩ := hpv n w' rfl
      simp only [Oper.stillUpon, Oper.upon] at h1 ⊢
      exact ⟨u, ⟨rfl, h1.1⟩, h1.2⟩
  obtain ⟨v, hv, hr⟩ := key
  unfold fixRun4 fixRunG
  rw [if_pos hw]
  refine ⟨v, ?_, hr⟩
  unfold Cl4
  rw [if_neg hE]
  refine ⟨hpl, fun s' h1 h2 w hI => ?_⟩
  obtain rfl : s' = s := by omega
  rw [hI]
  exact hv
/-- the k-th one that changes the world -/
theorem fix4_eff (k : Nat) (v : Value) (hv : (g (k + 1)).2 = v) (hE : (decide (i ∈ E) && E.idxOf i == k) = true) (hw : Region.wanted o (yielded ops a.tmps) = true)
    (h : ∀ (J : Act → World → Prop), (∀ w' u, Spec i (g k).1 w' u → J (a.put o.dst u) w') → o.wp P a (g k).1 J (fun _ _ _ => False)) (hr : ∀ J : Act → Prop, (∀ a', fixRun4 P ops E Spec g K rest (i + 1) a' → J a') → J (a.put o.dst v)) : fixRun4 P ops E Spec g K (o :: rest) i a := by
  subst hv
  simp only [Bool.and_eq_true, decide_eq_true_eq, beq_iff_eq] at hE
  unfold fixRun4 fixRunG
  rw [if_pos hw]
  refine ⟨_, ?_, hr _ fun _ h => h⟩
  unfold Cl4
  rw [if_pos hE.1, hE.2]
  exact ⟨rfl, h _ fun w' u hs => ⟨u, rfl, hs⟩⟩
theorem fix4_skip (hE : decide (i ∈ E) = false) (hw : Region.wanted o (yielded ops a.tmps) = false)
    (hr : ∀ J : Act → Prop, (∀ a', fixRun4 P ops E Spec g K rest (i + 1) a' → J a') → J (a.put o.dst undef)) : fixRun4 P ops E Spec g K (o :: rest) i a := by
  unfold fixRun4 fixRunG
  rw [if_neg (by rw [hw]; decide)]
  exact ⟨by simpa using hE, hr _ fun _ h => h⟩
end
end
end Go.Proofs.Ytclmdidgioggdaa.Cod
namespace Go.Proofs.Ytclmdidgioggdaa.Cod
section
variable {P : Program} {ops : Array Oper}
section
variable (P : Program) (ops : Array Oper) (E : List Nat) (Spec : Nat → Nat → (Nat → World × Value) → World → Value → Prop)
def Cl5 (g : Nat → World × Value) (i : Nat) (o : Oper) (a : Act) (v : Value) : Prop :=
  if i ∈ E then v = (g (E.idxOf i + 1)).2 ∧ o.wp P a (g (E.idxOf i)).1 (fun a' w' => ∃ u, a' = a.put o.dst u ∧ Spec i (E.idxOf i) g w' u) (fun _ _ _ => False)
  else plainB o = true ∧ ∀ s, loOf E o ≤ s → s ≤ hiR ops E i → FixOp P (· = (g s).1) a o v
def fixRun5 (g : Nat → World × Value) (K : Act → Prop) : List Oper → Nat → Act → Prop := fixRunG ops (Cl5 P ops E Spec g) (fun i => i ∉ E) K
def Ok5 (w0 : World) (g : Nat → World × Value) : Prop := (g 0).1 = w0 ∧ ∀ k, k < E.length → Spec (E.getD k 0) k g (g (k + 1)).1 (g (k + 1)).2
end
def OnWay5 (ops : Array Oper) (Es : List (List Nat)) (Spec : Nat → Nat → (Nat → World × Value) → World → Value → Prop) (w0 : World) (a0 : Act) (F : List Nat → (Nat → World × Value) → Act) (listed : Array Bool) (a : Act) (w : World) : Prop :=
  Closed ops listed ∧ listed.size = ops.size ∧ ∃ E ∈ Es, ∃ s, s ≤ E.length ∧ (∀ e ∈ E.take s, listed.getD e false = true) ∧ (∀ e ∈ E.drop s, listed.getD e false = false) ∧ ∃ g, Ok5 E Spec w0 g ∧ w = (g s).1 ∧
    ∀ E' ∈ Es, E'.take s = E.take s → ∀ g', Ok5 E' Spec w0 g' → (∀ n, n ≤ s → g' n = g n) → Fits ops a0 (F E' g') listed a
def extG (nx : Nat → (Nat → World × Value) → World × Value) (g : Nat → World × Value) (k : Nat) : Nat → Nat → World × Value
  | 0 => g
  | m + 1 => fun n => if n ≤ k + m then extG nx g k m n else nx (k + m) (extG nx g k m)
/-- the way g up to k, then on -/
def fullG (nx : Nat → (Nat → World × Value) → World × Value) (g : Nat → World × Value) (k n : Nat) : World × Value := extG nx g k (n - k) n
theorem ext_stable (nx : Nat → (Nat → World × Value) → World × Value) (g : Nat → World × Value) (k m n : Nat) (h : n ≤ k + m) : ∀ d, extG nx g k (m + d) n = extG nx g k m n
  | 0 => rfl
  | d + 1 => by
    rw [← ext_stable nx g k m n h d]
    show (if n ≤ k + (m + d) then extG nx g k (m + d) n else _) = _
    rw [if_pos (by omega)]
theorem full_old {nx : Nat → (Nat → World × Value) → World × Value} {g : Nat → World × Value} {k n : Nat} (h : n ≤ k) : fullG nx g k n = g n := by
  unfold fullG
  rw [Nat.sub_eq_zero_of_le h]
  rfl
theorem full_ext {nx : Nat → (Nat → World × Value) → World × Value} {g : Nat → World × Value} {k m n : Nat} (h : n ≤ k + m) : extG nx g k m n = fullG nx g k n := by
  unfold fullG
  have := ext_stable nx g k (n - k) n (by omega) (m - (n - k))
  rwa [show n - k + (m - (n - k)) = m by omega] at this
theorem full_next {nx : Nat → (Nat → World × Value) → World × Value} {g : Nat → World × Value} {k j : Nat} (h : k ≤ j) : fullG nx g k (j + 1) = nx j (extG nx g k (j - k)) := by
  unfold fullG
  rw [show j + 1 - k = (j - k) + 1 by omega]
  show (if j + 1 ≤ k + (j - k) then _ else nx (k + (j - k)) _) = _
  rw [if_neg (by omega), show k + (j - k) = j by omega]
theorem full_ok {E : List Nat} {Spec : Nat → Nat → (Nat → World × Value) → World → Value → Prop} (cong : ∀ i k g g' W u, (∀ n, n ≤ k → g n = g' n) → Spec i k g W u → Spec i k g' W u) {w0 : World} {g : Nat → World × Value} {nx : Nat → (Nat → World × Value) → World × Value} {k : Nat} (h0 : (g 0).1 = w0) (hnx : ∀ k g, Spec (E.getD k 0) k g (nx k g).1 (nx k g).2)
    (hlt : ∀ n, n < k → Spec (E.getD n 0) n g (g (n + 1)).1 (g (n + 1)).2) : Ok5 E Spec w0 (fullG nx g k) := by
  refine ⟨by rw [full_old (Nat.zero_le _)]; exact h0, fun n _ => ?_⟩
  rcases Nat.lt_or_ge n k with h1 | h1
  · rw [full_old (by omega)]
    exact cong _ _ _ _ _ _ (fun m hm => (full_old (by omega)).symm) (hlt n h1)
  · rw [full_next h1]
    exact cong _ _ _ _ _ _ (fun m hm => full_ext (by omega)) (hnx n _)
theorem onWay5_step {Es : List (List Nat)} {Spec : Nat → Nat → (Nat → World × Value) → World → Value → Prop} {w0 : World} {a0 : Act} {F : List Nat → (Nat → World × Value) → Act} (ok : FixOk2 ops) (hes : EsOk ops Es) (cong : ∀ i k g g' W u, (∀ n, n ≤ k → g n = g' n) → Spec i k g W u → Spec i k g' W u) (tot : ∀ i k g, ∃ W' u, Spec i k g W' u)
    (hfx : ∀ E ∈ Es, ∀ g, Ok5 E Spec w0 g → ∀ (j : Nat) (o : Oper), ops[j]? = some o → ∃ A, Before ops 0 j a0 (F E g) A ∧ FixedG ops (Cl5 P ops E Spec g) (fun i => i ∉ E) (F E g) A j o) {Q : Exit → Act → World → Prop} {listed : Array Bool} {a : Act} {w : World} (h : OnWay5 ops Es Spec w0 a0 F listed a w) {i : Nat} (hi : i ∈ Region.ready .any ops listed) :
    wpOp P ops Q i (OnWay5 ops Es Spec w0 a0 F (listed.setIfInBounds i true)) a w := by
  obtain ⟨hcl, hls, E, hE, s, hs, hs1, hs2, g, hg, rfl, hall⟩ := h
  obtain ⟨hun0, o, ho, hready⟩ := mem_ready.1 hi
  have hilt := (Array.getElem?_eq_some_iff.1 ho).1
  have hun : listed.getD i false = false := by
    have hi' : i < listed.size := by omega
    simp [hi'] at hun0 ⊢; exact hun0
  have hset : (listed.setIfInBounds i true).getD i false = true := by
    have hi' : i < listed.size := by omega
    simp [hi']
  have hcl' := closed_step hcl ho hready
  have hls' : (listed.setIfInBounds i true).size = ops.size := by simpa using hls
  have nxs : ∀ E : List Nat, ∃ nx : Nat → (Nat → World × Value) → World × Value, ∀ k g, Spec (E.getD k 0) k g (nx k g).1 (nx k g).2 := fun E => ⟨fun k g => ((tot (E.getD k 0) k g).choose, (tot (E.getD k 0) k g).choose_spec.choose), fun k g => (tot (E.getD k 0) k g).choose_spec.choose_spec⟩
  -- the other orders that have begun alike
  have pre : ∀ E' ∈ Es, E'.take s = E.take s → s ≤ E'.length ∧ (∀ e ∈ E'.take s, listed.getD e false = true) ∧ (∀ e ∈ E'.drop s, listed.getD e false = false) := by
    intro E' hE' ht
    refine ⟨?_, fun e he => hs1 e (ht ▸ he), fun e he => ?_⟩
    · have := congrArg List.length ht
      simp only [List.length_take] at this
      omega
    · have h1 : e ∈ E := hes.perm E' hE' E hE e (List.mem_of_mem_drop he)
      rw [← List.take_append_drop s E, List.mem_append] at h1
      rcases h1 with h1 | h1
      · exfalso
        rw [← ht] at h1
        have hn := hes.nodup E' hE'
        rw [← List.take_append_drop s E', List.nodup_append] at hn
        exact hn.2.2 e h1 e he rfl
      · exact hs2 e h1
  have at_ : ∀ E' ∈ Es, E'.take s = E.take s → ∀ g', Ok5 E' Spec w0 g' → (∀ n, n ≤ s → g' n = g n) → ∃ A, execOp a.eval o = execOp A.eval o ∧ A.tmps.size = a.tmps.size ∧ Region.wanted o (yielded ops a.tmps) = Region.wanted o (yielded ops A.tmps) ∧ FixedG ops (Cl5 P ops E' Spec g') (fun i => i ∉ E') (F E' g') A i o ∧ Fits ops a0 (F E' g') listed a := by
    intro E' hE' ht g' h1 h2
    have hf := hall E' hE' ht g' h1 h2
    obtain ⟨A, hA, hFA⟩ := hfx E' hE' g' h1 i o ho
    have hlook := fits_look ok hcl hf ho hun hready hA
    exact ⟨A, exec_same ok.sel ho hlook, hA.size.trans hf.size.symm, wanted_same hlook, hFA, hf⟩
  unfold wpOp
  simp only [ho]
  by_cases hiE : i ∈ E
  · have hid : i ∈ E.drop s := by
      have h1 := hiE
      rw [← List.take_append_drop s E, List.mem_append] at h1
      rcases h1 with h1 | h1
      · rw [hs1 i h1] at hun; cases hun
      · exact h1
    obtain ⟨E2, hE2, ht2, hat2⟩ := hes.next E hE s i hid o ho (fun e he hw => by
      obtain ⟨x, hx, hb, hon⟩ := waitsB_spec hw
      have hl := hready x hx hb
      rw [hon] at hl
      rw [← List.take_append_drop s E, List.mem_append] at he
      rcases he with he | he
      · exact he
      · rw [hs2 e he] at hl; cases hl)
    have idx : ∀ E' ∈ Es, E'[s]? = some i → E'.idxOf i = s ∧ i ∈ E' ∧ s < E'.length ∧ E'.getD s 0 = i := by
      intro E' hE' h
      obtain ⟨hl, he⟩ := List.getElem?_eq_some_iff.1 h
      have hm : i ∈ E' := he ▸ List.getElem_mem hl
      refine ⟨?_, hm, hl, by rw [List.getD_eq_getElem?_getD, h]; rfl⟩
      have hk : E'.idxOf i < E'.length := List.idxOf_lt_length_iff.2 hm
      have hg : E'[E'.idxOf i] = i := List.getElem_idxOf hk
      have hn := hes.nodup E' hE'
      rcases Nat.lt_trichotomy (E'.idxOf i) s with h1 | h1 | h1
      · exact absurd (hg.trans he.symm) (List.pairwise_iff_getElem.1 hn _ _ hk hl h1)
      · exact h1
      · exact absurd (he.trans hg.symm) (List.pairwise_iff_getElem.1 hn _ _ hl hk h1)
    obtain ⟨hi2, hm2, hl2, hgd2⟩ := idx E2 hE2 hat2
    obtain ⟨nx, hnx⟩ := nxs E2
    have hpre : ∀ n, n < s → Spec (E2.getD n 0) n g (g (n + 1)).1 (g (n + 1)).2 := fun n hn => by rw [take_getD ht2 hn]; exact hg.2 n (by omega)
    have hok2 : Ok5 E2 Spec w0 (fullG nx g s) := full_ok cong hg.1 hnx hpre
    obtain ⟨A, hex, hsz, hwa, hFA, hf⟩ := at_ E2 hE2 ht2 _ hok2 (fun n hn => full_old hn)
    by_cases hw : Region.wanted o (yielded ops a.tmps) = true
    · rw [if_pos hw]
      obtain ⟨v, hv, _⟩ := hFA.1 (by rw [← hwa]; exact hw)
      unfold Cl5 at hv
      rw [if_pos hm2, hi2, full_old (Nat.le_refl _)] at hv
      refine .inl (Oper.wp_mono (fun a' w' h => ?_) (wp_at4 hv.2 hex hsz))
      obtain ⟨u, rfl, hsp⟩ := h
      obtain ⟨hsl, hp1, hp2⟩ := pre E2 hE2 ht2
      obtain ⟨g1, eg1⟩ : ∃ g1 : Nat → World × Value, g1 = fun n => if n ≤ s then g n else (w', u) := ⟨_, rfl⟩
      have hg1 : ∀ n, n ≤ s → g1 n = g n := fun n hn => by rw [eg1]; exact if_pos hn
      have hg1s : g1 (s + 1) = (w', u) := by rw [eg1]; exact if_neg (by omega)
      have hpre1 : ∀ n, n < s + 1 → Spec (E2.getD n 0) n g1 (g1 (n + 1)).1 (g1 (n + 1)).2 := fun n hn => by
        rcases Nat.lt_or_ge n s with h1 | h1
        · rw [hg1 (n + 1) (by omega)]
          exact cong _ _ _ _ _ _ (fun m hm => (hg1 m (by omega)).symm) (hpre n h1)
        · obtain rfl : n = s := by omega
          rw [hg1s, hgd2]
          exact cong _ _ _ _ _ _ (fun m hm => by rw [full_old hm, hg1 m hm]) hsp
      clear eg1
      refine ⟨hcl', hls', E2, hE2, s + 1, hl2, ?_, ?_, fullG nx g1 (s + 1), full_ok cong (by rw [hg1 0 (Nat.zero_le _)]; exact hg.1) hnx hpre1, by rw [full_old (Nat.le_refl _), hg1s], ?_⟩
      · intro e he
        rw [List.take_add_one, List.mem_append] at he
        rcases he with he | he
        · exact getD_set_true (hp1 e he)
        · rw [hat2] at he
          simp at he
          rw [he]; exact hset
      · intro e he
        have hd : e ∈ E2.drop s := by
          obtain ⟨j, hj, hje⟩ := List.mem_drop_iff_getElem.1 he
          exact List.mem_drop_iff_getElem.2 ⟨j + 1, by omega, by rw [← hje]; congr 1; omega⟩
        have hne : i ≠ e := by
          rintro rfl
          obtain ⟨j, hj, hje⟩ := List.mem_drop_iff_getElem.1 he
          obtain ⟨_, he2⟩ := List.getElem?_eq_some_iff.1 hat2
          have h5 : E2[s + 1 + j]'(by omega) = i := by simpa [Nat.add_comm] using hje
          exact (List.pairwise_iff_getElem.1 (hes.nodup E2 hE2) s (s + 1 + j) hl2 (by omega) (by omega)) (he2.trans h5.symm)
        rw [getD_set_ne false hne]
        exact hp2 e hd
      · intro E' hE' ht g' h1 h2
        have ht' : E'.take s = E.take s := by
          have := congrArg (List.take s) ht
          rw [List.take_take, List.take_take, Nat.min_eq_left (by omega)] at this
          rw [this, ht2]
        have hat' : E'[s]? = some i := by
          have := congrArg (·[s]?) ht
          simpa only [List.getElem?_take, Nat.lt_add_one, if_true, hat2] using this
        obtain ⟨hi', hm', _, _⟩ := idx E' hE' hat'
        have h3 : ∀ n, n ≤ s → g' n = g n := fun n hn => by rw [h2 n (by omega), full_old (by omega), hg1 n hn]
        have h4 : g' (s + 1) = (w', u) := by rw [h2 (s + 1) (Nat.le_refl _), full_old (Nat.le_refl _), hg1s]
        obtain ⟨A', hex', hsz', hwa', hFA', hf'⟩ := at_ E' hE' ht' g' h1 h3
        obtain ⟨v', hv', hF'⟩ := hFA'.1 (by rw [← hwa']; exact hw)
        unfold Cl5 at hv'
        rw [if_pos hm', hi', h4] at hv'
        rw [hv'.1] at hF'
        exact fits_step hls hf' ho _ hF'
    · exact absurd hm2 (hFA.2 (by rw [← hwa]; simpa using hw)).1
  · have hiE' : ∀ E' ∈ Es, i ∉ E' := fun E' hE' hm => hiE (hes.perm E' hE' E hE i hm)
    have hs1' : ∀ e ∈ E.take s, (listed.setIfInBounds i true).getD e false = true := fun e he => getD_set_true (hs1 e he)
    have hs2' : ∀ e ∈ E.drop s, (listed.setIfInBounds i true).getD e false = false := fun e he => by
      rw [getD_set_ne false (fun h => hiE (by rw [h]; exact List.mem_of_mem_drop he))]
      exact hs2 e he
    obtain ⟨A, hex, hsz, hwa, hFA, hf⟩ := at_ E hE rfl g hg (fun _ _ => rfl)
    by_cases hw : Region.wanted o (yielded ops a.tmps) = true
    · rw [if_pos hw]
      have one : ∀ E' ∈ Es, E'.take s = E.take s → ∀ g', Ok5 E' Spec w0 g' → (∀ n, n ≤ s → g' n = g n) → ∃ v, (F E' g').put o.dst v = F E' g' ∧ plainB o = true ∧ o.wp P a (g s).1 (fun a' w' => a' = a.put o.dst v ∧ w' = (g s).1) Q := by
        intro E' hE' ht g' h1 h2
        obtain ⟨A', hex', hsz', hwa', hFA', hf'⟩ := at_ E' hE' ht g' h1 h2
        obtain ⟨hsl, hp1, hp2⟩ := pre E' hE' ht
        obtain ⟨v', hv', hF'⟩ := hFA'.1 (by rw [← hwa']; exact hw)
        unfold Cl5 at hv'
        rw [if_neg (hiE' E' hE')] at hv'
        have h3 := (hv'.2 s (lo4 hp2 hready) (hi4 hcl hsl hp1 i hun)).at_ hex' hsz' (Q := Q) (g s).1 (by rw [h2 _ (Nat.le_refl _)])
        rw [h2 _ (Nat.le_refl _)] at h3
        exact ⟨v', hF', hv'.1, h3⟩
      obtain ⟨v0, _, hpl, h0⟩ := one E hE rfl g hg (fun _ _ => rfl)
      have hpv := fun r w' => plain_value (P := P) (ρ := a.eval) hpl (w := (g s).1) (w' := w') (r := r)
      refine .inl ?_
      unfold Oper.wp at h0 one ⊢
      generalize (execOp a.eval o).run P (g s).1 = r at *
      cases r with
      | halt x w' => cases x <;> simp only [Oper.upon] at h0 ⊢ <;> exact h0
      | ok n w' =>
        obtain ⟨u, rfl⟩ := hpv n w' rfl
        simp only [Oper.upon] at h0 one ⊢
        obtain ⟨_, rfl⟩ := h0
        refine ⟨hcl', hls', E, hE, s, hs, hs1', hs2', g, hg, rfl, fun E' hE' ht g' h1 h2 => ?_⟩
        obtain ⟨v', hF', _, h3, _⟩ := one E' hE' ht g' h1 h2
        rw [h3]
        exact fits_step hls (hall E' hE' ht g' h1 h2) ho _ hF'
    · rw [if_neg hw]
      refine ⟨hcl', hls', E, hE, s, hs, hs1', hs2', g, hg, rfl, fun E' hE' ht g' h1 h2 => ?_⟩
      obtain ⟨A', hex', hsz', hwa', hFA', hf'⟩ := at_ E' hE' ht g' h1 h2
      exact fits_step hls hf' ho _ (hFA'.2 (by rw [← hwa']; simpa using hw)).2
theorem onWay5_any {Es : List (List Nat)} {Spec : Nat → Nat → (Nat → World × Value) → World → Value → Prop} {w0 : World} {a0 : Act} {F : List Nat → (Nat → World × Value) → Act} (ok : FixOk2 ops) (hes : EsOk ops Es) (hEb : ∀ E ∈ Es, ∀ e ∈ E, e < ops.size) (cong : ∀ i k g g' W u, (∀ n, n ≤ k → g n = g' n) → Spec i k g W u → Spec i k g' W u) (tot : ∀ i k g, ∃ W' u, Spec i k g W' u)
    (hF0 : ∀ E ∈ Es, ∀ g, Ok5 E Spec w0 g → ∀ t : Nat, (∀ (j : Nat) (o : Oper), ops[j]? = some o → o.dst ≠ some t) → (F E g).tmps[t]? = a0.tmps[t]?)
    (hfx : ∀ E ∈ Es, ∀ g, Ok5 E Spec w0 g → ∀ (j : Nat) (o : Oper), ops[j]? = some o → ∃ A, Before ops 0 j a0 (F E g) A ∧ FixedG ops (Cl5 P ops E Spec g) (fun i => i ∉ E) (F E g) A j o) {Q : Exit → Act → World → Prop} (hQ : ∀ E ∈ Es, ∀ g, Ok5 E Spec w0 g → Q .normal (F E g) (g E.length).1) :
    ∀ (fuel : Nat) (listed : Array Bool) (a : Act) (w : World), ((List.range ops.size).filter fun i => !listed.getD i true).length ≤ fuel → OnWay5 ops Es Spec w0 a0 F listed a w → wpAny P .any ops Q fuel listed a w := by
  have fin : ∀ (listed : Array Bool) (a : Act) (w : World), Region.ready .any ops listed = [] → OnWay5 ops Es Spec w0 a0 F listed a w → Q .normal a w := by
    intro listed a w hr ⟨hcl, hls, E, hE, s, hs, hs1, hs2, g, hg, hw, hall⟩
    have hf := hall E hE rfl g hg (fun _ _ => rfl)
    have hl := all_listed2 ok hr hls
    have hA : a = F E g := act_ext hf.def_ fun t => by
      by_cases hw : ∃ (j : Nat) (o : Oper), ops[j]? = some o ∧ o.dst = some t
      · obtain ⟨j, o, ho, hd⟩ := hw
        exact hf.new t j o ho hd (hl j (Array.getElem?_eq_some_iff.1 ho).1)
      · rw [hf.old t fun j o ho hd => absurd ⟨j, o, ho, hd⟩ hw, hF0 E hE g hg t fun j o ho hd => hw ⟨j, o, ho, hd⟩]
    have hS : s = E.length := by
      rcases Nat.lt_or_ge s E.length with h | h
      · exfalso
        have hm : E[s] ∈ E.drop s := List.mem_drop_iff_getElem.2 ⟨0, by omega, by congr 1⟩
        have h1 := hs2 _ hm
        rw [hl _ (hEb E hE _ (List.getElem_mem h))] at h1
        cases h1
      · omega
    rw [hA, hw, hS]
    exact hQ E hE g hg
  intro fuel
  induction fuel with
  | zero =>
    intro listed a w hc h
    have hr : Region.ready .any ops listed = [] := by
      cases hq : Region.ready .any ops listed with
      | nil => rfl
      | cons i l =>
        have hm : i ∈ Region.ready .any ops listed := by rw [hq]; simp
        obtain ⟨h0, o, ho, _⟩ := mem_ready.1 hm
        have : i ∈ (List.range ops.size).filter fun i => !listed.getD i true := List.mem_filter.2 ⟨List.mem_range.2 (Array.getElem?_eq_some_iff.1 ho).1, by simpa using h0⟩
        rw [List.eq_nil_of_length_eq_zero (Nat.le_zero.1 hc)] at this
        cases this
    exact ⟨hr, fin listed a w hr h⟩
  | succ fuel ih =>
    intro listed a w hc h
    refine ⟨fun hr => fin listed a w hr h, fun i hi => ?_⟩
    refine wpOp_mono (fun a' w' h' => ih (listed.setIfInBounds i true) a' w' ?_ h') (onWay5_step ok hes cong tot hfx h hi)
    obtain ⟨h0, o, ho, _⟩ := mem_ready.1 hi
    have hilt := (Array.getElem?_eq_some_iff.1 ho).1
    have hls := h.2.1
    have hsub : ∀ (l : List Nat), l.Nodup → i ∈ l → (l.filter fun j => !(listed.setIfInBounds i true).getD j true).length < (l.filter fun j => !listed.getD j true).length := by
      intro l
      induction l with
      | nil => intro _ h; cases h
      | cons x l ihl =>
        intro hn hm
        rw [List.nodup_cons] at hn
        by_cases hx : x = i
        · subst hx
          have hrest : (l.filter fun j => !(listed.setIfInBounds x true).getD j true) = l.filter fun j => !listed.getD j true := by
            refine List.filter_congr fun j hj => ?_
            have hne : x ≠ j := fun e => hn.1 (e ▸ hj)
            rw [getD_set_ne true hne]
          have hxl : x < listed.size := by omega
          have h1 : (listed.setIfInBounds x true).getD x true = true := by simp [hxl]
          rw [List.filter_cons, List.filter_cons, hrest, h1, h0]
          simp
        · have hm' : i ∈ l := by
            rcases List.mem_cons.1 hm with e | e
            · exact absurd e.symm hx
            · exact e
          have := ihl hn.2 hm'
          rw [List.filter_cons, List.filter_cons, getD_set_ne true (Ne.symm hx)]
          split
          · simpa using this
          · exact this
    have := hsub (List.range ops.size) List.nodup_range (List.mem_range.2 hilt)
    omega
/-- THE RULE: Es the orders in which the operations that change the world may come; Spec what each does, and yields -/
theorem region_fix5 {id : Nat} {l : List Oper} {Q : Exit → Act → World → Prop} {a : Act} {w : World} (Es : List (List Nat)) (E0 : List Nat) (hE0 : Es.head? = some E0) (Spec : Nat → Nat → (Nat → World × Value) → World → Value → Prop) (hm : P.follows .mixedOrders = true) (hB : (fixB2 l.toArray && esOk l.toArray Es && Es.all (fun E => E.all fun e => decide (e < l.toArray.size))) = true)
    (cong : ∀ i k g g' W u, (∀ n, n ≤ k → g n = g' n) → Spec i k g W u → Spec i k g' W u) (tot : ∀ i k g, ∃ W' u, Spec i k g W' u) (h : ∀ E ∈ Es, ∀ g : Nat → World × Value, (g 0).1 = w.drew → (∀ k, k < E.length → Spec (E.getD k 0) k g (g (k + 1)).1 (g (k + 1)).2) → fixRun5 P l.toArray E Spec g (fun a' => Q .normal a' (g E.length).1) l 0 a) : (Code.region id l.toArray true).wp P Q a w := by
  simp only [Bool.and_eq_true, decide_eq_true_eq, List.all_eq_true] at hB
  obtain ⟨⟨hfix, hes⟩, hEb⟩ := hB
  have ok := fixOk2 hfix
  have hes := esOk_spec hes
  have hE0m : E0 ∈ Es := List.mem_of_mem_head? hE0
  have hh : ∀ E ∈ Es, ∀ g, Ok5 E Spec w.drew g → ∃ F : Act, Q .normal F (g E.length).1 ∧ F.tmps.size = a.tmps.size ∧ F.defers = a.defers ∧ (∀ t : Nat, (∀ (j : Nat) (o : Oper), 0 ≤ j → l.toArray[j]? = some o → o.dst ≠ some t) → F.tmps[t]? = a.tmps[t]?) ∧ ∀ (j : Nat) (o : Oper), 0 ≤ j → l.toArray[j]? = some o → ∃ A, Before l.toArray 0 j a F A ∧ FixedG l.toArray (Cl5 P l.toArray E Spec g) (fun i => i ∉ E) F A j o := fun E hE g hg => fix_allG ok l 0 a (by simp) (h E hE g hg.1 hg.2)
  classical
  let F : List Nat → (Nat → World × Value) → Act := fun E g => if hg : E ∈ Es ∧ Ok5 E Spec w.drew g then (hh E hg.1 g hg.2).choose else a
  have hF : ∀ E ∈ Es, ∀ g, Ok5 E Spec w.drew g → Q .normal (F E g) (g E.length).1 ∧ (F E g).tmps.size = a.tmps.size ∧ (F E g).defers = a.defers ∧ (∀ t : Nat, (∀ (j : Nat) (o : Oper), 0 ≤ j → l.toArray[j]? = some o → o.dst ≠ some t) → (F E g).tmps[t]? = a.tmps[t]?) ∧ ∀ (j : Nat) (o : Oper), 0 ≤ j → l.toArray[j]? = some o → ∃ A, Before l.toArray 0 j a (F E g) A ∧ FixedG l.toArray (Cl5 P l.toArray E Spec g) (fun i => i ∉ E) (F E g) A j o := by
    intro E hE g hg
    have e : F E g = (hh E hE g hg).choose := dif_pos ⟨hE, hg⟩
    rw [e]
    exact (hh E hE g hg).choose_spec
  clear_value F
  have hrep : ∀ j : Nat, (Array.replicate l.toArray.size false).getD j false = false := by
    intro j
    rw [Array.getD_eq_getD_getElem?, Array.getElem?_replicate]
    split <;> rfl
  obtain ⟨nx, hnx⟩ : ∃ nx : Nat → (Nat → World × Value) → World × Value, ∀ k g, Spec (E0.getD k 0) k g (nx k g).1 (nx k g).2 := ⟨fun k g => ((tot (E0.getD k 0) k g).choose, (tot (E0.getD k 0) k g).choose_spec.choose), fun k g => (tot (E0.getD k 0) k g).choose_spec.choose_spec⟩
  have hg0 : Ok5 E0 Spec w.drew (fullG nx (fun _ => (w.drew, undef)) 0) := full_ok cong rfl hnx (fun n hn => absurd hn (Nat.not_lt_zero n))
  refine wp_region_any hm (onWay5_any (a0 := a) (F := F) ok hes (fun E hE e he => hEb E hE e he) cong tot (fun E hE g hg t ht => (hF E hE g hg).2.2.2.1 t fun j o _ ho => ht j o ho) (fun E hE g hg j o ho => (hF E hE g hg).2.2.2.2 j o (Nat.zero_le _) ho) (fun E hE g hg => (hF E hE g hg).1) _ _ a _ ?_ ⟨?_, by simp, E0, hE0m, 0, Nat.zero_le _, by simp, fun e _ => hrep e, _, hg0, hg0.1.symm, fun E' hE' _ g' hg' _ => ⟨(hF E' hE' g' hg').2.1.symm, (hF E' hE' g' hg').2.2.1.symm, ?_, fun _ _ => rfl⟩⟩)
  · refine Nat.le_trans (List.length_filter_le _ _) (by simp)
  · intro j o _ hl
    rw [hrep] at hl
    cases hl
  · intro t j o _ _ hl
    rw [hrep] at hl
    cases hl
section
variable {E : List Nat} {Spec : Nat → Nat → (Nat → World × Value) → World → Value → Prop} {g : Nat → World × Value} {K : Act → Prop} {a : Act} {o : Oper} {rest : List Oper} {i : Nat}
theorem fix5_nil (h : K a) : fixRun5 P ops E Spec g K [] i a := h
theorem fix5_step (v : Value) (hE : (!decide (i ∈ E) && plainB o) = true) (hw : Region.wanted o (yielded ops a.tmps) = true)
    (h : ∀ (J : Act → World → Prop) (s : Nat), loOf E o ≤ s → s ≤ hiR ops E i → (∀ w, w = (g s).1 → J (a.put o.dst v) w) → o.wp P a (g s).1 J (fun _ _ _ => False)) (hr : ∀ J : Act → Prop, (∀ a', fixRun5 P ops E Spec g K rest (i + 1) a' → J a') → J (a.put o.dst v)) : fixRun5 P ops E Spec g K (o :: rest) i a := by
  simp only [Bool.and_eq_true, Bool.not_eq_true', decide_eq_false_iff_not] at hE
  unfold fixRun5 fixRunG
  rw [if_pos hw]
  refine ⟨v, ?_, hr _ fun _ h => h⟩
  unfold Cl5
  rw [if_neg hE.1]
  refine ⟨hE.2, fun s h1 h2 w hI => ?_⟩
  rw [hI]
  exact h _ s h1 h2 fun _ h => ⟨rfl, h⟩
theorem fix5_mid (v : Value) (lo hi : Nat) (hE : (!decide (i ∈ E) && plainB o && decide (hiR ops E i ≤ hi) && decide (lo ≤ loOf E o)) = true) (hw : Region.wanted o (yielded ops a.tmps) = true)
    (h : ∀ (J : Act → World → Prop) (s : Nat), lo ≤ s → s ≤ hi → (∀ w, w = (g s).1 → J (a.put o.dst v) w) → o.wp P a (g s).1 J (fun _ _ _ => False)) (hr : ∀ J : Act → Prop, (∀ a', fixRun5 P ops E Spec g K rest (i + 1) a' → J a') → J (a.put o.dst v)) : fixRun5 P ops E Spec g K (o :: rest) i a := by
  simp only [Bool.and_eq_true, Bool.not_eq_true', decide_eq_false_iff_not, decide_eq_true_eq] at hE
  refine fix5_step v (by simp [hE.1.1]) hw (fun J s h1 h2 hJ => h J s (by omega) (by omega) hJ) hr
/-- at one stage alone -/
theorem fix5_one (s : Nat) (hE : (!decide (i ∈ E) && plainB o && decide (hiR ops E i ≤ s) && decide (s ≤ loOf E o)) = true) (hw : Region.wanted o (yielded ops a.tmps) = true)
    (h : ∀ J : Act → Prop, (∀ a', fixRun5 P ops E Spec g K rest (i + 1) a' → J a') → o.still P a (g s).1 J) : fixRun5 P ops E Spec g K (o :: rest) i a := by
  simp only [Bool.and_eq_true, Bool.not_eq_true', decide_eq_false_iff_not, decide_eq_true_eq] at hE
  obtain ⟨⟨⟨hE, hpl⟩, hhi⟩, hlo⟩ := hE
  have h1 := h _ (fun _ h => h)
  have key : ∃ v, o.wp P a (g s).1 (fun a' w' => a' = a.put o.dst v ∧ w' = (g s).1) (fun _ _ _ => False) ∧ fixRun5 P ops E Spec g K rest (i + 1) (a.put o.dst v) := by
    have hpv := fun r w' => plain_value (P := P) (ρ := a.eval) hpl (w := (g s).1) (w' := w') (r := r)
    unfold Oper.still at h1
    unfold Oper.wp
    generalize (execOp a.eval o).run P (g s).1 = r at *
    cases r with
    | halt x w' => simp only [Oper.stillUpon] at h1
    | ok n w' =>
      obtain ⟨u, rfl⟩ := hpv n w' rfl
      simp only [Oper.stillUpon, Oper.upon] at h1 ⊢
      exact ⟨u, ⟨rfl, h1.1⟩, h1.2⟩
  obtain ⟨v, hv, hr⟩ := key
  unfold fixRun5 fixRunG
  rw [if_pos hw]
  refine ⟨v, ?_, hr⟩
  unfold Cl5
  rw [if_neg hE]
  refine ⟨hpl, fun s' h1 h2 w hI => ?_⟩
  obtain rfl : s' = s := by omega
  rw [hI]
  exact hv
/-- the k-th one that changes the world -/
theorem fix5_eff (k : Nat) (v : Value) (hv : (g (k + 1)).2 = v) (hE : (decide (i ∈ E) && E.idxOf i == k) = true) (hw : Region.wanted o (yielded ops a.tmps) = true)
    (h : ∀ (J : Act → World → Prop), (∀ w' u, Spec i k g w' u → J (a.put o.dst u) w') → o.wp P a (g k).1 J (fun _ _ _ => False)) (hr : ∀ J : Act → Prop, (∀ a', fixRun5 P ops E Spec g K rest (i + 1) a' → J a') → J (a.put o.dst v)) : fixRun5 P ops E Spec g K (o :: rest) i a := by
  subst hv
  simp only [Bool.and_eq_true, decide_eq_true_eq, beq_iff_eq] at hE
  unfold fixRun5 fixRunG
  rw [if_pos hw]
  refine ⟨_, ?_, hr _ fun _ h => h⟩
  unfold Cl5
  rw [if_pos hE.1, hE.2]
  exact ⟨rfl, h _ fun w' u hs => ⟨u, rfl, hs⟩⟩
theorem fix5_skip (hE : decide (i ∈ E) = false) (hw : Region.wanted o (yielded ops a.tmps) = false)
    (hr : ∀ J : Act → Prop, (∀ a', fixRun5 P ops E Spec g K rest (i + 1) a' → J a') → J (a.put o.dst undef)) : fixRun5 P ops E Spec g K (o :: rest) i a := by
  unfold fixRun5 fixRunG
  rw [if_neg (by rw [hw]; decide)]
  exact ⟨by simpa using hE, hr _ fun _ h => h⟩
end
end
end Go.Proofs.Ytclmdidgioggdaa.Cod

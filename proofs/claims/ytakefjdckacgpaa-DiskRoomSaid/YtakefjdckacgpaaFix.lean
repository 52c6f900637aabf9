/- Regions that draw their order, where each operation yields one value in whatever world of an invariant: one step for each operation, in the order of the text. -/
import Derived.Orders
import Derived.Tactics
import Derived.KernelRfl
namespace Go.Proofs.Ytakefjdckacgpaa.Cod
section
variable {P : Program} {ops : Array Oper}
def fixB (ops : Array Oper) : Bool :=
  Region.noSelect ops && (List.range ops.size).all fun i => match ops[i]? with
    | none => true
    | some o => (o.after.all fun e => !Region.binds .any e || decide (e.on < i)) && (List.range ops.size).all fun j => match ops[j]? with
      | none => true
      | some oj => match oj.dst with
        | none => true
        | some d => (i == j || o.dst != some d) && (!(o.looksAt ops).contains d || o.after.any fun e => Region.binds .any e && e.on == j)
structure FixOk (ops : Array Oper) : Prop where
  sel : Region.noSelect ops = true
  low : ∀ (i : Nat) (o : Oper), ops[i]? = some o → ∀ e ∈ o.after, Region.binds .any e = true → e.on < i
  dist : ∀ (i : Nat) (o : Oper) (j : Nat) (oj : Oper) (d : Tmp), ops[i]? = some o → ops[j]? = some oj → oj.dst = some d → o.dst = some d → i = j
  look : ∀ (i : Nat) (o : Oper) (j : Nat) (oj : Oper) (d : Tmp), ops[i]? = some o → ops[j]? = some oj → oj.dst = some d → d ∈ o.looksAt ops → ∃ e ∈ o.after, Region.binds .any e = true ∧ e.on = j
theorem fixOk (h : fixB ops = true) : FixOk ops := by
  simp only [fixB, Bool.and_eq_true, List.all_eq_true, List.mem_range] at h
  obtain ⟨hs, h⟩ := h
  have hx : ∀ (i : Nat) (o : Oper), ops[i]? = some o → i < ops.size := fun i o ho => (Array.getElem?_eq_some_iff.1 ho).1
  have hlow : ∀ (i : Nat) (o : Oper), ops[i]? = some o → ∀ e ∈ o.after, Region.binds .any e = true → e.on < i := by
    intro i o ho e he hb
    have h1 := h i (hx i o ho)
    simp only [ho, Bool.and_eq_true, Array.all_eq_true_iff_forall_mem] at h1
    have := h1.1 e he
    simpa [hb] using this
  have hj : ∀ (i : Nat) (o : Oper) (j : Nat) (oj : Oper) (d : Tmp), ops[i]? = some o → ops[j]? = some oj → oj.dst = some d → (i == j || o.dst != some d) = true ∧ (!(o.looksAt ops).contains d || o.after.any fun e => Region.binds .any e && e.on == j) = true := by
    intro i o j oj d ho hoj hd
    have h1 := h i (hx i o ho)
    simp only [ho, Bool.and_eq_true, List.all_eq_true, List.mem_range] at h1
    have h2 := h1.2 j (hx j oj hoj)
    simp only [hoj, hd, Bool.and_eq_true] at h2
    exact h2
  refine ⟨hs, hlow, ?_, ?_⟩
  · intro i o j oj d ho hoj hd hd'
    have := (hj i o j oj d ho hoj hd).1
    simp only [Bool.or_eq_true, beq_iff_eq, bne_iff_ne, ne_eq] at this
    rcases this with h1 | h1
    · exact h1
    · exact absurd hd' h1
  · intro i o j oj d ho hoj hd hl
    have := (hj i o j oj d ho hoj hd).2
    simp only [Bool.or_eq_true, Bool.not_eq_true', List.contains_eq_mem, decide_eq_false_iff_not] at this
    rcases this with h1 | h1
    · exact absurd hl h1
    · obtain ⟨e, he, hb⟩ := Array.any_eq_true'.1 h1
      simp only [Bool.and_eq_true, beq_iff_eq] at hb
      exact ⟨e, he, hb.1, hb.2⟩
/-- an operation puts v, in whatever world of Inv -/
def FixOp (P : Program) (Inv : World → Prop) (a : Act) (o : Oper) (v : Value) : Prop :=
  ∀ w, Inv w → o.wp P a w (fun a' w' => a' = a.put o.dst v ∧ Inv w') (fun _ _ _ => False)
/-- the operations in the order of the text -/
def fixRun (P : Program) (ops : Array Oper) (Inv : World → Prop) (K : Act → Prop) : List Oper → Act → Prop
  | [], a => K a
  | o :: rest, a => if Region.wanted o (yielded ops a.tmps) then ∃ v, FixOp P Inv a o v ∧ fixRun P ops Inv K rest (a.put o.dst v) else fixRun P ops Inv K rest (a.put o.dst undef)
theorem put_same {a b : Act} {d : Option Tmp} {u v : Value} (hs : a.tmps.size = b.tmps.size) (h : a.put d u = a.put d v) : b.put d u = b.put d v := by
  cases d with
  | none => rfl
  | some d =>
    simp only [Act.put] at h ⊢
    injection h with h1
    have h2 : b.tmps.setIfInBounds d u = b.tmps.setIfInBounds d v := by
      apply Array.ext_getElem?
      intro t
      by_cases ht : d = t
      · subst ht
        have := congrArg (fun x : Array Value => x[d]?) h1
        simp only [Array.getElem?_setIfInBounds] at this ⊢
        rw [← hs]
        by_cases hd : d < a.tmps.size
        · simpa [hd] using this
        · simp [hd]
      · rw [Array.getElem?_setIfInBounds_ne ht, Array.getElem?_setIfInBounds_ne ht]
    rw [h2]
theorem put_defers_ne {a : Act} {d : Option Tmp} {u v : Value} {x : Deferred} (h : ({ a with defers := x :: a.defers } : Act).put d u = a.put d v) : False := by
  have h1 : ∀ (b : Act) (z : Value), (b.put d z).defers = b.defers := fun b z => by cases d <;> rfl
  have h2 := congrArg Act.defers h
  rw [h1, h1] at h2
  have h3 := congrArg List.length h2
  simp at h3
theorem letsOut_false : ¬ LetsOut (fun (_ : Exit) (_ : Act) (_ : World) => False) := fun ⟨_, _, h⟩ => h
theorem FixOp.at_ {Inv : World → Prop} {a b : Act} {o : Oper} {v : Value} (h : FixOp P Inv a o v) (he : execOp b.eval o = execOp a.eval o) (hs : a.tmps.size = b.tmps.size) {Q : Exit → Act → World → Prop} (w : World) (hw : Inv w) :
    o.wp P b w (fun a' w' => a' = b.put o.dst v ∧ Inv w') Q := by
  have h1 := h w hw
  unfold Oper.wp at *
  rw [he]
  generalize (execOp a.eval o).run P w = r at *
  cases r with
  | ok n w' =>
    cases n <;> simp only [Oper.upon] at h1 ⊢
    case value u => exact ⟨put_same hs h1.1, h1.2⟩
    case skip => exact ⟨put_same hs h1.1, h1.2⟩
    case defer d => exact (put_defers_ne h1.1).elim
    case enter f args =>
      refine Calls.mono h1 fun e w'' he => ?_
      cases e with
      | returned u => exact ⟨put_same hs he.1, he.2⟩
      | panicked c => exact he.elim
      | outgrown => exact (letsOut_false he).elim
    case row row args => exact Rows.mono h1 fun u w'' he => ⟨put_same hs he.1, he.2⟩
  | halt x w' => cases x <;> simp only [Oper.upon] at h1
theorem put_size (a : Act) (d : Option Tmp) (v : Value) : (a.put d v).tmps.size = a.tmps.size := by cases d <;> simp [Act.put]
theorem put_def (a : Act) (d : Option Tmp) (v : Value) : (a.put d v).defers = a.defers := by cases d <;> rfl
theorem put_get_ne (a : Act) (d : Option Tmp) (v : Value) {t : Nat} (h : d ≠ some t) : (a.put d v).tmps[t]? = a.tmps[t]? := by
  cases d with
  | none => rfl
  | some d => simp only [Act.put]; rw [Array.getElem?_setIfInBounds_ne (fun e => h (by rw [e]))]
theorem act_ext {a b : Act} (hd : a.defers = b.defers) (h : ∀ t : Nat, a.tmps[t]? = b.tmps[t]?) : a = b := by
  obtain ⟨x, y⟩ := a
  obtain ⟨x', y'⟩ := b
  simp only at hd h
  rw [hd, Array.ext_getElem? h]
theorem eval_same {a b : Act} {x : Operand} (h : ∀ t, x = .tmp t → a.tmps[t]? = b.tmps[t]?) : a.eval x = b.eval x := by
  cases x with
  | tmp t => have := h t rfl; simp [Act.eval, this]
  | _ => rfl
theorem exec_same (hs : Region.noSelect ops = true) {i : Nat} {o : Oper} (ho : ops[i]? = some o) {a b : Act} (h : ∀ t ∈ o.looksAt ops, a.tmps[t]? = b.tmps[t]?) : execOp a.eval o = execOp b.eval o :=
  execOp_congr o (fun cs b => Region.noSelect_spec hs i o cs b ho) fun x hx => eval_same fun t ht => h t (by
    subst ht
    exact List.mem_append_left _ (List.mem_filterMap.2 ⟨.tmp t, by simpa using hx, rfl⟩))
theorem wanted_same {o : Oper} {a b : Act} (h : ∀ t ∈ o.looksAt ops, a.tmps[t]? = b.tmps[t]?) : Region.wanted o (yielded ops a.tmps) = Region.wanted o (yielded ops b.tmps) := by
  unfold Region.wanted
  cases hg : o.guard with
  | none => rfl
  | some gw =>
    obtain ⟨g, want⟩ := gw
    have hy : yielded ops a.tmps g = yielded ops b.tmps g := by
      unfold yielded
      cases ht : (ops[g]?).bind (·.dst) with
      | none => rfl
      | some t => have := h t (by simp [Oper.looksAt, hg, ht]); simp only [Option.bind_some, this]
    simp only [hy]
def Fixed (P : Program) (ops : Array Oper) (Inv : World → Prop) (F : Act) (o : Oper) : Prop :=
  (Region.wanted o (yielded ops F.tmps) = true → ∃ v, FixOp P Inv F o v ∧ F.put o.dst v = F) ∧ (Region.wanted o (yielded ops F.tmps) = false → F.put o.dst undef = F)
theorem put_fixed {a F : Act} {d : Option Tmp} {v : Value} (hs : F.tmps.size = (a.put d v).tmps.size) (h : ∀ t, d = some t → F.tmps[t]? = (a.put d v).tmps[t]?) : F.put d v = F := by
  cases d with
  | none => rfl
  | some d =>
    have h1 := h d rfl
    refine act_ext (put_def _ _ _) fun t => ?_
    by_cases ht : d = t
    · subst ht
      simp only [Act.put] at h1 hs ⊢
      rw [h1]
      simp only [Array.getElem?_setIfInBounds, hs, Array.size_setIfInBounds, if_true]
    · exact put_get_ne _ _ _ (fun e => ht (by injection e))
theorem fix_all {Inv : World → Prop} {K : Act → Prop} (ok : FixOk ops) : ∀ (l : List Oper) (k : Nat) (a : Act), (∀ j, l[j]? = ops[k + j]?) → fixRun P ops Inv K l a →
    ∃ F : Act, K F ∧ F.tmps.size = a.tmps.size ∧ F.defers = a.defers ∧ (∀ t : Nat, (∀ (j : Nat) (o : Oper), k ≤ j → ops[j]? = some o → o.dst ≠ some t) → F.tmps[t]? = a.tmps[t]?) ∧ ∀ (j : Nat) (o : Oper), k ≤ j → ops[j]? = some o → Fixed P ops Inv F o
  | [], k, a, hl, h => ⟨a, h, rfl, rfl, fun _ _ => rfl, fun j o hj ho => by
      have := hl (j - k)
      rw [show k + (j - k) = j by omega, ho] at this
      simp at this⟩
  | o :: l, k, a, hl, h => by
    have h0 : ops[k]? = some o := by simpa using (hl 0).symm
    have hl' : ∀ j, l[j]? = ops[k + 1 + j]? := fun j => by have := hl (j + 1); simpa [Nat.add_assoc, Nat.add_comm 1 j] using this
    have key : ∀ v, fixRun P ops Inv K l (a.put o.dst v) → (Region.wanted o (yielded ops a.tmps) = true → FixOp P Inv a o v) → (Region.wanted o (yielded ops a.tmps) = false → v = undef) →
        ∃ F : Act, K F ∧ F.tmps.size = a.tmps.size ∧ F.defers = a.defers ∧ (∀ t : Nat, (∀ (j : Nat) (o : Oper), k ≤ j → ops[j]? = some o → o.dst ≠ some t) → F.tmps[t]? = a.tmps[t]?) ∧ ∀ (j : Nat) (o : Oper), k ≤ j → ops[j]? = some o → Fixed P ops Inv F o := by
      intro v hr hv hu
      obtain ⟨F, hK, hsz, hdf, hout, hfx⟩ := fix_all ok l (k + 1) _ hl' hr
      rw [put_size] at hsz
      rw [put_def] at hdf
      have hlook : ∀ t ∈ o.looksAt ops, F.tmps[t]? = a.tmps[t]? := by
        intro t ht
        have hn : ∀ (j : Nat) (oj : Oper), k ≤ j → ops[j]? = some oj → oj.dst ≠ some t := by
          intro j oj hj hoj hd
          obtain ⟨e, he, hb, hon⟩ := ok.look k o j oj t h0 hoj hd ht
          have := ok.low k o h0 e he hb
          omega
        rw [hout t (fun j oj hj hoj => hn j oj (by omega) hoj), put_get_ne _ _ _ (hn k o (Nat.le_refl _) h0)]
      have hex := exec_same ok.sel h0 hlook
      have hwa := wanted_same hlook
      have hfix : F.put o.dst v = F := by
        refine put_fixed (by rw [put_size]; exact hsz) fun t ht => hout t fun j oj hj hoj hd => ?_
        have := ok.dist k o j oj t h0 hoj hd ht
        omega
      refine ⟨F, hK, hsz, hdf, ?_, ?_⟩
      · intro t ht
        rw [hout t (fun j oj hj hoj => ht j oj (by omega) hoj), put_get_ne _ _ _ (ht k o (Nat.le_refl _) h0)]
      · intro j oj hj hoj
        by_cases hjk : j = k
        · subst hjk
          obtain rfl : oj = o := Option.some.inj (hoj.symm.trans h0)
          refine ⟨fun hw => ⟨v, ?_, hfix⟩, fun hw => ?_⟩
          · rw [hwa] at hw
            intro w hI
            exact (hv hw).at_ hex hsz.symm w hI
          · rw [hwa] at hw
            have := hu hw
            subst this
            exact hfix
        · exact hfx j oj (by omega) hoj
    unfold fixRun at h
    by_cases hw : Region.wanted o (yielded ops a.tmps) = true
    · rw [if_pos hw] at h
      obtain ⟨v, hv, hr⟩ := h
      exact key v hr (fun _ => hv) (fun e => by rw [hw] at e; cases e)
    · rw [if_neg hw] at h
      exact key undef h (fun e => absurd e hw) (fun _ => rfl)
/-- on the way through a region -/
def OnWay (ops : Array Oper) (Inv : World → Prop) (F : Act) (listed : Array Bool) (a : Act) (w : World) : Prop :=
  Inv w ∧ a.tmps.size = F.tmps.size ∧ a.defers = F.defers ∧ ∀ t : Nat, a.tmps[t]? = F.tmps[t]? ∨ ∃ (j : Nat) (o : Oper), ops[j]? = some o ∧ o.dst = some t ∧ listed.getD j false = false
theorem onWay_step {Inv : World → Prop} {F : Act} (ok : FixOk ops) (hfx : ∀ (j : Nat) (o : Oper), ops[j]? = some o → Fixed P ops Inv F o) {Q : Exit → Act → World → Prop} {listed : Array Bool} {a : Act} {w : World} (h : OnWay ops Inv F listed a w) {i : Nat} (hi : i ∈ Region.ready .any ops listed) :
    wpOp P ops Q i (OnWay ops Inv F (listed.setIfInBounds i true)) a w := by
  obtain ⟨hI, hsz, hdf, hall⟩ := h
  obtain ⟨_, o, ho, hready⟩ := mem_ready.1 hi
  have hlook : ∀ t ∈ o.looksAt ops, a.tmps[t]? = F.tmps[t]? := by
    intro t ht
    rcases hall t with h1 | ⟨j, oj, hoj, hd, hun⟩
    · exact h1
    · obtain ⟨e, he, hb, hon⟩ := ok.look i o j oj t ho hoj hd ht
      have := hready e he hb
      rw [hon, hun] at this
      cases this
  have hex := exec_same ok.sel ho hlook
  have hwa := wanted_same hlook
  have hnext : ∀ v, F.put o.dst v = F → ∀ w', Inv w' → OnWay ops Inv F (listed.setIfInBounds i true) (a.put o.dst v) w' := by
    intro v hv w' hI'
    refine ⟨hI', by rw [put_size]; exact hsz, by rw [put_def]; exact hdf, fun t => ?_⟩
    by_cases ht : o.dst = some t
    · left
      rw [ht] at hv ⊢
      rw [← congrArg (fun x : Act => x.tmps[t]?) hv]
      simp only [Act.put, Array.getElem?_setIfInBounds, hsz]
      by_cases hb : t < F.tmps.size
      · simp [hb]
      · simp [hb]
    · rw [put_get_ne _ _ _ ht]
      rcases hall t with h1 | ⟨j, oj, hoj, hd, hun⟩
      · exact .inl h1
      · refine .inr ⟨j, oj, hoj, hd, ?_⟩
        have hij : i ≠ j := by
          rintro rfl
          obtain rfl : oj = o := Option.some.inj (hoj.symm.trans ho)
          exact ht hd
        rw [getD_set_ne false hij]
        exact hun
  unfold wpOp
  simp only [ho]
  by_cases hw : Region.wanted o (yielded ops a.tmps) = true
  · rw [if_pos hw]
    rw [hwa] at hw
    obtain ⟨v, hv, hF⟩ := (hfx i o ho).1 hw
    refine .inl (Oper.wp_mono (fun a' w' h => ?_) (hv.at_ hex hsz.symm w hI))
    rw [h.1]
    exact hnext v hF w' h.2
  · rw [if_neg hw]
    rw [hwa] at hw
    exact hnext undef ((hfx i o ho).2 (by simpa using hw)) w hI
theorem all_listed (ok : FixOk ops) {listed : Array Bool} (hr : Region.ready .any ops listed = []) (hsz : listed.size = ops.size) : ∀ i, i < ops.size → listed.getD i false = true := by
  intro i
  induction i using Nat.strongRecOn with
  | _ i ih =>
    intro hi
    cases hl : listed.getD i false with
    | true => rfl
    | false =>
      have hm : i ∈ Region.ready .any ops listed := by
        refine mem_ready.2 ⟨?_, ops[i], Array.getElem?_eq_getElem hi, fun e he hb => ?_⟩
        · have hi' : i < listed.size := by omega
          simp [hi'] at hl ⊢
          exact hl
        · have hlt := ok.low i _ (Array.getElem?_eq_getElem hi) e he hb
          exact ih e.on hlt (by omega)
      rw [hr] at hm
      cases hm
theorem onWay_any {Inv : World → Prop} {F : Act} (ok : FixOk ops) (hfx : ∀ (j : Nat) (o : Oper), ops[j]? = some o → Fixed P ops Inv F o) {Q : Exit → Act → World → Prop} (hQ : ∀ w, Inv w → Q .normal F w) :
    ∀ (fuel : Nat) (listed : Array Bool) (a : Act) (w : World), listed.size = ops.size → ((List.range ops.size).filter fun i => !listed.getD i true).length ≤ fuel → OnWay ops Inv F listed a w → wpAny P .any ops Q fuel listed a w := by
  have fin : ∀ (listed : Array Bool) (a : Act) (w : World), listed.size = ops.size → Region.ready .any ops listed = [] → OnWay ops Inv F listed a w → Q .normal a w := by
    intro listed a w hsz hr h
    have hl := all_listed ok hr hsz
    have : a = F := act_ext h.2.2.1 fun t => by
      rcases h.2.2.2 t with h1 | ⟨j, o, ho, _, hun⟩
      · exact h1
      · rw [hl j (Array.getElem?_eq_some_iff.1 ho).1] at hun; cases hun
    rw [this]
    exact hQ w h.1
  intro fuel
  induction fuel with
  | zero =>
    intro listed a w hsz hc h
    have hr : Region.ready .any ops listed = [] := by
      cases hq : Region.ready .any ops listed with
      | nil => rfl
      | cons i l =>
        have hm : i ∈ Region.ready .any ops listed := by rw [hq]; simp
        obtain ⟨h0, o, ho, _⟩ := mem_ready.1 hm
        have : i ∈ (List.range ops.size).filter fun i => !listed.getD i true := List.mem_filter.2 ⟨List.mem_range.2 (Array.getElem?_eq_some_iff.1 ho).1, by simpa using h0⟩
        rw [List.eq_nil_of_length_eq_zero (Nat.le_zero.1 hc)] at this
        cases this
    exact ⟨hr, fin listed a w hsz hr h⟩
  | succ fuel ih =>
    intro listed a w hsz hc h
    refine ⟨fun hr => fin listed a w hsz hr h, fun i hi => ?_⟩
    refine wpOp_mono (fun a' w' h' => ih (listed.setIfInBounds i true) a' w' (by simpa using hsz) ?_ h') (onWay_step ok hfx h hi)
    obtain ⟨h0, o, ho, _⟩ := mem_ready.1 hi
    have hilt := (Array.getElem?_eq_some_iff.1 ho).1
    have hsub : ∀ (l : List Nat), l.Nodup → i ∈ l → (l.filter fun j => !(listed.setIfInBounds i true).getD j true).length < (l.filter fun j => !listed.getD j true).length := by
      intro l
      induction l with
      | nil => intro _ h; cases h
      | cons x l ihl =>
        intro hn hm
        rw [List.nodup_cons] at hn
        by_cases hx : x = i
        · subst hx
          have hrest : (l.filter fun j => !(listed.setIfInBounds x true).getD j true) = l.filter fun j => !listed.getD j true := by
            refine List.filter_congr fun j hj => ?_
            have hne : x ≠ j := fun e => hn.1 (e ▸ hj)
            rw [getD_set_ne true hne]
          have hxl : x < listed.size := by omega
          have h1 : (listed.setIfInBounds x true).getD x true = true := by simp [hxl]
          rw [List.filter_cons, List.filter_cons, hrest, h1, h0]
          simp
        · have hm' : i ∈ l := by
            rcases List.mem_cons.1 hm with e | e
            · exact absurd e.symm hx
            · exact e
          have := ihl hn.2 hm'
          rw [List.filter_cons, List.filter_cons, getD_set_ne true (Ne.symm hx)]
          split
          · simpa using this
          · exact this
    have := hsub (List.range ops.size) List.nodup_range (List.mem_range.2 hilt)
    omega
theorem wp_region_fix {id : Nat} {l : List Oper} {Q : Exit → Act → World → Prop} {a : Act} {w : World} (Inv : World → Prop) (hm : P.follows .mixedOrders = true) (hB : fixB l.toArray = true) (h0 : Inv { w with drawn := w.drawn + 1 })
    (h : fixRun P l.toArray Inv (fun a' => ∀ w', Inv w' → Q .normal a' w') l a) : (Code.region id l.toArray true).wp P Q a w := by
  have ok := fixOk hB
  obtain ⟨F, hK, hsz, hdf, hout, hfx⟩ := fix_all ok l 0 a (by simp) h
  refine wp_region_any hm (onWay_any ok (fun j o ho => hfx j o (Nat.zero_le _) ho) hK _ _ a _ (by simp) ?_ ⟨h0, hsz.symm, hdf.symm, fun t => ?_⟩)
  · refine Nat.le_trans (List.length_filter_le _ _) (by simp)
  · by_cases ht : ∃ (j : Nat) (o : Oper), l.toArray[j]? = some o ∧ o.dst = some t
    · obtain ⟨j, o, ho, hd⟩ := ht
      exact .inr ⟨j, o, ho, hd, getD_replicate_false' _ _⟩
    · exact .inl (hout t (fun j o _ ho hd => ht ⟨j, o, ho, hd⟩)).symm
where
  getD_replicate_false' (m j : Nat) : (Array.replicate m false).getD j false = false := by
    rcases Nat.lt_or_ge j m with h | h
    · simp [h]
    · simp [h]
theorem fix_nil {Inv : World → Prop} {K : Act → Prop} {a : Act} (h : K a) : fixRun P ops Inv K [] a := h
theorem fix_step {Inv : World → Prop} {K : Act → Prop} {a : Act} {o : Oper} {rest : List Oper} (v : Value) (hw : Region.wanted o (yielded ops a.tmps) = true)
    (h : ∀ (J : Act → World → Prop), (∀ w, Inv w → J (a.put o.dst v) w) → ∀ w, Inv w → o.wp P a w J (fun _ _ _ => False)) (hr : fixRun P ops Inv K rest (a.put o.dst v)) : fixRun P ops Inv K (o :: rest) a := by
  unfold fixRun
  rw [if_pos hw]
  exact ⟨v, fun w hI => h _ (fun _ h => ⟨rfl, h⟩) w hI, hr⟩
theorem fix_skip {Inv : World → Prop} {K : Act → Prop} {a : Act} {o : Oper} {rest : List Oper} (hw : Region.wanted o (yielded ops a.tmps) = false)
    (hr : fixRun P ops Inv K rest (a.put o.dst undef)) : fixRun P ops Inv K (o :: rest) a := by
  unfold fixRun
  rw [if_neg (by rw [hw]; decide)]
  exact hr
end
end Go.Proofs.Ytakefjdckacgpaa.Cod

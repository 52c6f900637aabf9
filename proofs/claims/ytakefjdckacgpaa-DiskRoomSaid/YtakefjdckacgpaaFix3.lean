/- Regions that draw their order, with operations that change the world one behind the other (E), where what comes behind depends on the worlds that were come to: g n is the world when n of E are done. -/
import Derived.Test.YtakefjdckacgpaaFix2
import Derived.Still
namespace Go.Proofs.Ytakefjdckacgpaa.Cod
section
variable {P : Program} {ops : Array Oper}
def fixRunG (ops : Array Oper) (Cl : Nat → Oper → Act → Value → Prop) (Sk : Nat → Prop) (K : Act → Prop) : List Oper → Nat → Act → Prop
  | [], _, a => K a
  | o :: rest, i, a =>
    if Region.wanted o (yielded ops a.tmps) then ∃ v, Cl i o a v ∧ fixRunG ops Cl Sk K rest (i + 1) (a.put o.dst v)
    else Sk i ∧ fixRunG ops Cl Sk K rest (i + 1) (a.put o.dst undef)
def FixedG (ops : Array Oper) (Cl : Nat → Oper → Act → Value → Prop) (Sk : Nat → Prop) (F A : Act) (i : Nat) (o : Oper) : Prop :=
  (Region.wanted o (yielded ops A.tmps) = true → ∃ v, Cl i o A v ∧ F.put o.dst v = F) ∧ (Region.wanted o (yielded ops A.tmps) = false → Sk i ∧ F.put o.dst undef = F)
theorem fix_allG {Cl : Nat → Oper → Act → Value → Prop} {Sk : Nat → Prop} {K : Act → Prop} (ok : FixOk2 ops) : ∀ (l : List Oper) (k : Nat) (a : Act), (∀ j, l[j]? = ops[k + j]?) → fixRunG ops Cl Sk K l k a →
    ∃ F : Act, K F ∧ F.tmps.size = a.tmps.size ∧ F.defers = a.defers ∧ (∀ t : Nat, (∀ (j : Nat) (o : Oper), k ≤ j → ops[j]? = some o → o.dst ≠ some t) → F.tmps[t]? = a.tmps[t]?) ∧ ∀ (j : Nat) (o : Oper), k ≤ j → ops[j]? = some o → ∃ A, Before ops k j a F A ∧ FixedG ops Cl Sk F A j o
  | [], k, a, hl, h => ⟨a, h, rfl, rfl, fun _ _ => rfl, fun j o hj ho => by
      have := hl (j - k)
      rw [show k + (j - k) = j by omega, ho] at this
      simp at this⟩
  | o :: l, k, a, hl, h => by
    have h0 : ops[k]? = some o := by simpa using (hl 0).symm
    have hl' : ∀ j, l[j]? = ops[k + 1 + j]? := fun j => by have := hl (j + 1); simpa [Nat.add_assoc, Nat.add_comm 1 j] using this
    have key : ∀ v, fixRunG ops Cl Sk K l (k + 1) (a.put o.dst v) → (Region.wanted o (yielded ops a.tmps) = true → Cl k o a v) →
        (Region.wanted o (yielded ops a.tmps) = false → v = undef ∧ Sk k) →
        ∃ F : Act, K F ∧ F.tmps.size = a.tmps.size ∧ F.defers = a.defers ∧ (∀ t : Nat, (∀ (j : Nat) (o : Oper), k ≤ j → ops[j]? = some o → o.dst ≠ some t) → F.tmps[t]? = a.tmps[t]?) ∧ ∀ (j : Nat) (o : Oper), k ≤ j → ops[j]? = some o → ∃ A, Before ops k j a F A ∧ FixedG ops Cl Sk F A j o := by
      intro v hr hv hu
      obtain ⟨F, hK, hsz, hdf, hout, hfx⟩ := fix_allG ok l (k + 1) _ hl' hr
      rw [put_size] at hsz
      rw [put_def] at hdf
      have hlate : ∀ t, o.dst = some t → F.tmps[t]? = (a.put o.dst v).tmps[t]? := fun t ht => hout t fun j oj hj hoj hd => by
        have := ok.dist k o j oj t h0 hoj hd ht
        omega
      have hfix : F.put o.dst v = F := put_fixed (by rw [put_size]; exact hsz) hlate
      refine ⟨F, hK, hsz, hdf, ?_, ?_⟩
      · intro t ht
        rw [hout t (fun j oj hj hoj => ht j oj (by omega) hoj), put_get_ne _ _ _ (ht k o (Nat.le_refl _) h0)]
      · intro j oj hj hoj
        by_cases hjk : j = k
        · subst hjk
          obtain rfl : oj = o := Option.some.inj (hoj.symm.trans h0)
          refine ⟨a, ⟨hsz.symm, fun t i o h1 h2 => by omega, fun _ _ => rfl⟩, fun hw => ⟨v, hv hw, hfix⟩, fun hw => ?_⟩
          obtain ⟨rfl, h2⟩ := hu hw
          exact ⟨h2, hfix⟩
        · obtain ⟨A, hA, hF⟩ := hfx j oj (by omega) hoj
          refine ⟨A, ⟨hA.size, ?_, ?_⟩, hF⟩
          · intro t i oi h1 h2 hoi hd
            by_cases hik : i = k
            · subst hik
              obtain rfl : oi = o := Option.some.inj (hoi.symm.trans h0)
              have hno : ∀ (i' : Nat) (o' : Oper), i + 1 ≤ i' → i' < j → ops[i']? = some o' → o'.dst ≠ some t := by
                intro i' o' h3 _ ho' hd'
                have := ok.dist i oi i' o' t h0 ho' hd' hd
                omega
              rw [hA.old t hno, hlate t hd]
            · exact hA.put t i oi (by omega) h2 hoi hd
          · intro t ht
            rw [hA.old t (fun i o' h1 h2 ho' => ht i o' (by omega) h2 ho'), put_get_ne _ _ _ (ht k o (Nat.le_refl _) (by omega) h0)]
    unfold fixRunG at h
    by_cases hw : Region.wanted o (yielded ops a.tmps) = true
    · rw [if_pos hw] at h
      obtain ⟨v, hv, hr⟩ := h
      exact key v hr (fun _ => hv) (fun e => by rw [hw] at e; cases e)
    · rw [if_neg hw] at h
      exact key undef h.2 (fun e => absurd e hw) (fun _ => ⟨rfl, h.1⟩)
structure Fits (ops : Array Oper) (a0 F : Act) (listed : Array Bool) (a : Act) : Prop where
  size : a.tmps.size = F.tmps.size
  def_ : a.defers = F.defers
  new : ∀ (t : Nat) (j : Nat) (o : Oper), ops[j]? = some o → o.dst = some t → listed.getD j false = true → a.tmps[t]? = F.tmps[t]?
  old : ∀ t : Nat, (∀ (j : Nat) (o : Oper), ops[j]? = some o → o.dst = some t → listed.getD j false = false) → a.tmps[t]? = a0.tmps[t]?
theorem fits_look {a0 F A : Act} (ok : FixOk2 ops) {listed : Array Bool} {a : Act} (hcl : Closed ops listed) (hf : Fits ops a0 F listed a) {i : Nat} {o : Oper} (ho : ops[i]? = some o) (hun : listed.getD i false = false) (hready : ∀ e ∈ o.after, Region.binds .any e = true → listed.getD e.on false = true) (hA : Before ops 0 i a0 F A) : ∀ t ∈ o.looksAt ops, a.tmps[t]? = A.tmps[t]? := by
  obtain ⟨hsz, hdf, hnew, hold⟩ := hf
  intro t ht
  by_cases hw : ∃ (j : Nat) (oj : Oper), ops[j]? = some oj ∧ oj.dst = some t
  · obtain ⟨j, oj, hoj, hd⟩ := hw
    rcases ok.look i o j oj t ho hoj hd ht with h1 | ⟨hij, h1⟩
    · obtain ⟨e, he, hb, hon⟩ := waitsB_spec h1
      have hl := hready e he hb
      rw [hon] at hl
      have hji := ok.low i o ho e he hb
      rw [hnew t j oj hoj hd hl, hA.put t j oj (Nat.zero_le _) (by omega) hoj hd]
    · obtain ⟨e, he, hb, hon⟩ := waitsB_spec h1
      have hjun : listed.getD j false = false := by
        cases hl : listed.getD j false with
        | false => rfl
        | true =>
          have := hcl j oj hoj hl e he hb
          rw [hon, hun] at this
          cases this
      have honly : ∀ (j' : Nat) (o' : Oper), ops[j']? = some o' → o'.dst = some t → j' = j := fun j' o' ho' hd' => ok.dist j' o' j oj t ho' hoj hd hd'
      rw [hold t fun j' o' ho' hd' => by rw [honly j' o' ho' hd']; exact hjun, hA.old t fun i' o' _ h2 ho' hd' => by
        have := honly i' o' ho' hd'
        omega]
  · rw [hold t fun j o' ho' hd' => absurd ⟨j, o', ho', hd'⟩ hw, hA.old t fun i' o' _ _ ho' hd' => hw ⟨i', o', ho', hd'⟩]
theorem closed_step {listed : Array Bool} (hcl : Closed ops listed) {i : Nat} {o : Oper} (ho : ops[i]? = some o) (hready : ∀ e ∈ o.after, Region.binds .any e = true → listed.getD e.on false = true) : Closed ops (listed.setIfInBounds i true) := by
  intro j oj hoj hl e he hb
  by_cases hij : i = j
  · subst hij
    obtain rfl : oj = o := Option.some.inj (hoj.symm.trans ho)
    exact getD_set_true (hready e he hb)
  · rw [getD_set_ne false hij] at hl
    exact getD_set_true (hcl j oj hoj hl e he hb)
theorem fits_step {a0 F : Act} {listed : Array Bool} {a : Act} (hls : listed.size = ops.size) (hf : Fits ops a0 F listed a) {i : Nat} {o : Oper} (ho : ops[i]? = some o) (v : Value) (hv : F.put o.dst v = F) : Fits ops a0 F (listed.setIfInBounds i true) (a.put o.dst v) := by
  obtain ⟨hsz, hdf, hnew, hold⟩ := hf
  have hilt := (Array.getElem?_eq_some_iff.1 ho).1
  have hset : (listed.setIfInBounds i true).getD i false = true := by
    have hi' : i < listed.size := by omega
    simp [hi']
  refine ⟨by rw [put_size]; exact hsz, by rw [put_def]; exact hdf, fun t j oj hoj hd hl => ?_, fun t ht => ?_⟩
  · by_cases htd : o.dst = some t
    · rw [htd] at hv ⊢
      rw [← congrArg (fun x : Act => x.tmps[t]?) hv]
      simp only [Act.put, Array.getElem?_setIfInBounds, hsz]
      by_cases hb : t < F.tmps.size
      · simp [hb]
      · simp [hb]
    · rw [put_get_ne _ _ _ htd]
      have hij : i ≠ j := by
        rintro rfl
        obtain rfl : oj = o := Option.some.inj (hoj.symm.trans ho)
        exact htd hd
      rw [getD_set_ne false hij] at hl
      exact hnew t j oj hoj hd hl
  · have htd : o.dst ≠ some t := fun hd => by
      have := ht i o ho hd
      rw [hset] at this
      cases this
    rw [put_get_ne _ _ _ htd]
    refine hold t fun j oj hoj hd => ?_
    have hij : i ≠ j := by
      rintro rfl
      obtain rfl : oj = o := Option.some.inj (hoj.symm.trans ho)
      exact htd hd
    have := ht j oj hoj hd
    rwa [getD_set_ne false hij] at this
theorem stage_step {E : List Nat} {listed : Array Bool} (hch : chainE ops E = true) (hnd : E.Nodup) (hcl : Closed ops listed) (hls : listed.size = ops.size) {i : Nat} {o : Oper} (ho : ops[i]? = some o) (hun : listed.getD i false = false) (hready : ∀ e ∈ o.after, Region.binds .any e = true → listed.getD e.on false = true) :
    if i ∈ E then stage E listed = E.idxOf i ∧ stage E (listed.setIfInBounds i true) = E.idxOf i + 1 else stage E (listed.setIfInBounds i true) = stage E listed := by
  have hilt := (Array.getElem?_eq_some_iff.1 ho).1
  obtain ⟨s, hs, hs1, hs2⟩ := chain_pre hcl E hch
  have hst := stage_pre hs hs1 hs2
  have hset : (listed.setIfInBounds i true).getD i false = true := by
    have hi' : i < listed.size := by omega
    simp [hi']
  split
  · rename_i hE
    have hk : E.idxOf i < E.length := List.idxOf_lt_length_iff.2 hE
    have hg : E[E.idxOf i] = i := List.getElem_idxOf hk
    have hsi : s = E.idxOf i := by
      rcases Nat.lt_trichotomy s (E.idxOf i) with hlt | heq | hgt
      · exfalso
        -- i waits for E[s], which is not listed
        have hprev : ∀ d, d ≤ E.idxOf i - s → ∀ (hb : E.idxOf i - d < E.length), listed.getD (E[E.idxOf i - d]) false = false := by
          intro d hd hb
          have hm : E[E.idxOf i - d] ∈ E.drop s := by
            rw [List.mem_drop_iff_getElem]
            exact ⟨E.idxOf i - d - s, by omega, by congr 1; omega⟩
          exact hs2 _ hm
        have hp := hprev 1 (by omega) (by omega)
        have hpair : ∀ (l : List Nat), chainE ops l = true → ∀ (j : Nat) (hj : j + 1 < l.length), ∃ o, ops[l[j + 1]]? = some o ∧ waitsB o l[j] = true := by
          intro l
          induction l with
          | nil => intro _ j hj; simp at hj
          | cons x l ih =>
            intro hl j hj
            cases l with
            | nil => simp at hj
            | cons y r =>
              simp only [chainE, Bool.and_eq_true] at hl
              cases j with
              | zero =>
                cases hoy : ops[y]? with
                | none => simp [hoy] at hl
                | some oy => simp only [hoy] at hl; exact ⟨oy, by simpa using hoy, by simpa using hl.1⟩
              | succ j => exact ih hl.2 j (by simpa using hj)
        obtain ⟨o', ho', hw'⟩ := hpair E hch (E.idxOf i - 1) (by omega)
        have hidx : E[E.idxOf i - 1 + 1]'(by omega) = i := by
          have : E.idxOf i - 1 + 1 = E.idxOf i := by omega
          simp only [this, hg]
        rw [hidx] at ho'
        obtain rfl : o' = o := Option.some.inj (ho'.symm.trans ho)
        obtain ⟨x, hx, hb, hon⟩ := waitsB_spec hw'
        have := hready x hx hb
        rw [hon, hp] at this
        cases this
      · exact heq
      · exfalso
        have hm : i ∈ E.take s := by
          rw [List.mem_take_iff_getElem]
          exact ⟨E.idxOf i, by omega, hg⟩
        rw [hs1 i hm] at hun
        cases hun
    refine ⟨hst.trans hsi, ?_⟩
    rw [← hsi]
    refine stage_pre (by omega) ?_ ?_
    · intro e he
      rw [List.take_add_one, List.mem_append] at he
      rcases he with he | he
      · exact getD_set_true (hs1 e he)
      · rw [hsi, List.getElem?_eq_getElem hk, hg] at he
        simp at he
        rw [he]; exact hset
    · intro e he
      have hne : i ≠ e := by
        rintro rfl
        obtain ⟨j, hj, hje⟩ := List.mem_drop_iff_getElem.1 he
        have h3 : E[s + 1 + j]'(by omega) = E[E.idxOf i] := by rw [hg]; simpa [Nat.add_comm] using hje
        exact (List.pairwise_iff_getElem.1 hnd (E.idxOf i) (s + 1 + j) hk (by omega) (by omega)) h3.symm
      rw [getD_set_ne false hne]
      refine hs2 e ?_
      obtain ⟨j, hj, hje⟩ := List.mem_drop_iff_getElem.1 he
      exact List.mem_drop_iff_getElem.2 ⟨j + 1, by omega, by rw [← hje]; congr 1; omega⟩
  · rename_i hE
    unfold stage
    congr 1
    refine List.filter_congr fun e he => ?_
    have hne : i ≠ e := fun h => hE (h ▸ he)
    rw [getD_set_ne false hne]
theorem lo_step {E : List Nat} {listed : Array Bool} (hch : chainE ops E = true) (hcl : Closed ops listed) {o : Oper} (hready : ∀ e ∈ o.after, Region.binds .any e = true → listed.getD e.on false = true) : loOf E o ≤ stage E listed := by
  obtain ⟨s, hs, hs1, hs2⟩ := chain_pre hcl E hch
  have hst := stage_pre hs hs1 hs2
  refine loOf_le fun j e hj hw => ?_
  obtain ⟨x, hx, hb, hon⟩ := waitsB_spec hw
  have hl := hready x hx hb
  rw [hon] at hl
  rcases Nat.lt_or_ge j s with h1 | h1
  · rw [hst]; omega
  · exfalso
    obtain ⟨hjl, hje⟩ := List.getElem?_eq_some_iff.1 hj
    have hm : e ∈ E.drop s := List.mem_drop_iff_getElem.2 ⟨j - s, by omega, by rw [← hje]; congr 1; omega⟩
    rw [hs2 e hm] at hl
    cases hl
def plainB (o : Oper) : Bool := match o.op with
  | .nilCheck _ | .move _ | .assign _ | .pick .. | .load .. | .binOp .. | .unOp .. | .convert .. | .slice .. | .fieldAddr .. | .field .. | .indexAddr .. | .index .. | .lookup .. | .extract .. | .typeAssert .. | .build .. | .makeInterface .. => true
  | .call c => match c.callee with
    | .builtin .len | .builtin .cap | .builtin .min | .builtin .max => true
    | _ => false
  | _ => false
theorem andThen_value {α : Type} {x : Result α} {f : α → World → Result Next} {r : Next} {w' : World} (hf : ∀ a w, ∃ u, f a w = .ok (.value u) w) (h : x.andThen f = .ok r w') : ∃ u, r = .value u := by
  cases x with
  | ok a w =>
    obtain ⟨u, hu⟩ := hf a w
    have h' : f a w = .ok r w' := h
    rw [hu] at h'
    injection h' with h1 _
    exact ⟨u, h1.symm⟩
  | halt _ _ => cases h
theorem run_value {s : Sem Value} {w w' : World} {r : Next} (h : ((do pure (.value (← s)) : Sem Next)).run P w = .ok r w') : ∃ u, r = .value u := by
  have e1 : ((do pure (.value (← s)) : Sem Next)).run P w = (s.run P w).andThen fun v w => .ok (.value v) w := by simp [go_sem]
  rw [e1] at h
  exact andThen_value (fun a w => ⟨_, rfl⟩) h
theorem plain_value {ρ : Operand → Value} {o : Oper} (h : plainB o = true) {w w' : World} {r : Next} (hr : (execOp ρ o).run P w = .ok r w') : ∃ u, r = .value u := by
  unfold execOp at hr
  unfold plainB at h
  cases hop : o.op <;> rw [hop] at h hr <;> first | (cases h; done) | skip
  all_goals first
    | (injection hr with h1 _; exact ⟨_, h1.symm⟩)
    | exact run_value hr
    | skip
  case nilCheck x =>
    dsimp only at hr
    generalize ρ x = y at hr
    split at hr
    · exact absurd hr (by simp [runtimePanic])
    · exact absurd hr (by simp [runtimePanic])
    · exact absurd hr (by simp [runtimePanic])
    · split at hr
      · exact absurd hr (by simp [runtimePanic])
      · simp only [Sem.run_bind] at hr
        generalize (program : Sem Program).run P w = z1 at hr
        cases z1 with
        | halt _ _ => cases hr
        | ok p w1 =>
          simp only [Result.andThen_ok] at hr
          generalize Sem.run P (nilAhead _ _ _ _) w1 = z2 at hr
          cases z2 with
          | halt _ _ => cases hr
          | ok b w2 =>
            simp only [Result.andThen_ok] at hr
            split at hr
            · exact absurd hr (by simp [unsupported, Sem.run])
            · injection hr with h1 _
              exact ⟨_, h1.symm⟩
      · injection hr with h1 _
        exact ⟨_, h1.symm⟩
    · injection hr with h1 _
      exact ⟨_, h1.symm⟩
  case pick c x y =>
    have hr : ((do pure (.value (if ← asBool (ρ c) then ρ x else ρ y)) : Sem Next)).run P w = .ok r w' := hr
    generalize asBool (ρ c) = z at hr
    have e1 : ((do pure (.value (if ← z then ρ x else ρ y)) : Sem Next)).run P w = (z.run P w).andThen fun b w => .ok (.value (if b = true then ρ x else ρ y)) w := by simp [go_sem]
    rw [e1] at hr
    exact andThen_value (fun a w => ⟨_, rfl⟩) hr
  case call c =>
    cases hc : c.callee <;> simp only [hc] at h <;> first | (cases h; done) | skip
    rename_i b
    have hr : ((do let d ← resolve ρ c o.type; invoke d.target d.args : Sem Next)).run P w = .ok r w' := hr
    unfold resolve at hr
    simp only [hc] at hr
    have hr : (builtin b c.argTypes o.type (c.args.map fun | .const _ => true | _ => false) (c.args.map ρ)).run P w = .ok r w' := hr
    unfold builtin at hr
    cases b <;> first | (cases h; done) | exact run_value hr
/-- what waits for i, also through others: one pass, as operations wait for earlier ones alone -/
def reachF (ops : Array Oper) (R : List Nat) (j : Nat) : List Nat := match ops[j]? with
  | some o => if o.after.any (fun x => Region.binds .any x && R.contains x.on) then j :: R else R
  | none => R
def hiR (ops : Array Oper) (E : List Nat) (i : Nat) : Nat :=
  let R := (List.range ops.size).foldl (reachF ops) [i]
  (E.zipIdx.map fun x => if R.contains x.1 then x.2 else E.length).foldl min E.length
theorem reach_un {listed : Array Bool} (hcl : Closed ops listed) : ∀ (l : List Nat) (R : List Nat), (∀ j ∈ R, listed.getD j false = false) → ∀ j ∈ l.foldl (reachF ops) R, listed.getD j false = false
  | [], _, h => h
  | j :: l, R, h => by
    refine reach_un hcl l _ ?_
    unfold reachF
    cases ho : ops[j]? with
    | none => exact h
    | some o =>
      dsimp only
      split
      · rename_i hany
        intro y hy
        rcases List.mem_cons.1 hy with rfl | hy
        · obtain ⟨x, hx, hb⟩ := Array.any_eq_true'.1 hany
          simp only [Bool.and_eq_true, List.contains_eq_mem, decide_eq_true_eq] at hb
          cases hl : listed.getD y false with
          | false => rfl
          | true =>
            have h1 := hcl y o ho hl x hx hb.1
            rw [h x.on hb.2] at h1
            cases h1
        · exact h y hy
      · exact h
theorem hiR_le {listed : Array Bool} {E : List Nat} (hcl : Closed ops listed) (hch : chainE ops E = true) (i : Nat) (hun : listed.getD i false = false) : stage E listed ≤ hiR ops E i := by
  obtain ⟨s, hs, hs1, hs2⟩ := chain_pre hcl E hch
  rw [stage_pre hs hs1 hs2]
  have hR := reach_un hcl (List.range ops.size) [i] (fun j hj => by rw [List.mem_singleton.1 hj]; exact hun)
  unfold hiR
  refine foldl_min _ _ hs fun x hx => ?_
  obtain ⟨⟨e, k⟩, hm, rfl⟩ := List.mem_map.1 hx
  have hk := List.mem_zipIdx_iff_getElem?.1 hm
  dsimp only
  split
  · rename_i hc
    have hu := hR e (by simpa using hc)
    rcases Nat.lt_or_ge k s with h1 | h1
    · exfalso
      obtain ⟨hkl, hke⟩ := List.getElem?_eq_some_iff.1 hk
      have hm : e ∈ E.take s := List.mem_take_iff_getElem.2 ⟨k, by omega, hke⟩
      rw [hs1 e hm] at hu
      cases hu
    · exact h1
  · exact hs
theorem wp_at3 {J : World → Prop} {a b : Act} {o : Oper} {vf : World → Value} {w : World} (h1 : o.wp P a w (fun a' w' => a' = a.put o.dst (vf w') ∧ J w') (fun _ _ _ => False)) (he : execOp b.eval o = execOp a.eval o) (hs : a.tmps.size = b.tmps.size) {Q : Exit → Act → World → Prop} :
    o.wp P b w (fun a' w' => a' = b.put o.dst (vf w') ∧ J w') Q := by
  unfold Oper.wp at *
  rw [he]
  generalize (execOp a.eval o).run P w = r at *
  cases r with
  | ok n w' =>
    cases n <;> simp only [Oper.upon] at h1 ⊢
    case value u => exact ⟨put_same hs h1.1, h1.2⟩
    case skip => exact ⟨put_same hs h1.1, h1.2⟩
    case defer d => exact (put_defers_ne h1.1).elim
    case enter f args =>
      refine Calls.mono h1 fun e w'' he => ?_
      cases e with
      | returned u => exact ⟨put_same hs he.1, he.2⟩
      | panicked c => exact he.elim
      | outgrown => exact (letsOut_false he).elim
    case row row args => exact Rows.mono h1 fun u w'' he => ⟨put_same hs he.1, he.2⟩
  | halt x w' => cases x <;> simp only [Oper.upon] at h1
section
variable (P : Program) (ops : Array Oper) (E : List Nat) (VE : Nat → World → World → Value) (Spec : Nat → World → World → Prop)
def Cl3 (g : Nat → World) (i : Nat) (o : Oper) (a : Act) (v : Value) : Prop :=
  if i ∈ E then v = VE (E.idxOf i) (g (E.idxOf i)) (g (E.idxOf i + 1)) ∧ o.wp P a (g (E.idxOf i)) (fun a' w' => a' = a.put o.dst (VE (E.idxOf i) (g (E.idxOf i)) w') ∧ Spec (E.idxOf i) (g (E.idxOf i)) w') (fun _ _ _ => False)
  else plainB o = true ∧ ∀ s, loOf E o ≤ s → s ≤ hiR ops E i → FixOp P (· = g s) a o v
/-- the operations in the order of the text, on the way g through the worlds -/
def fixRun3 (g : Nat → World) (K : Act → Prop) : List Oper → Nat → Act → Prop := fixRunG ops (Cl3 P ops E VE Spec g) (fun i => i ∉ E) K
def Ok3 (w0 : World) (g : Nat → World) : Prop := g 0 = w0 ∧ ∀ k, k < E.length → Spec k (g k) (g (k + 1))
def OnWay3 (w0 : World) (a0 : Act) (F : (Nat → World) → Act) (listed : Array Bool) (a : Act) (w : World) : Prop :=
  Closed ops listed ∧ listed.size = ops.size ∧ ∃ g, Ok3 E Spec w0 g ∧ w = g (stage E listed) ∧ ∀ g', Ok3 E Spec w0 g' → (∀ n, n ≤ stage E listed → g' n = g n) → Fits ops a0 (F g') listed a
end
def contW (nx : Nat → World → World) (k : Nat) (w' : World) : Nat → World | 0 => w' | m + 1 => nx (k + 1 + m) (contW nx k w' m)
theorem onWay3_step {E : List Nat} {VE : Nat → World → World → Value} {Spec : Nat → World → World → Prop} {w0 : World} {a0 : Act} {F : (Nat → World) → Act} (ok : FixOk2 ops) (hch : chainE ops E = true) (hnd : E.Nodup) (tot : ∀ k W, ∃ W', Spec k W W')
    (hfx : ∀ g, Ok3 E Spec w0 g → ∀ (j : Nat) (o : Oper), ops[j]? = some o → ∃ A, Before ops 0 j a0 (F g) A ∧ FixedG ops (Cl3 P ops E VE Spec g) (fun i => i ∉ E) (F g) A j o) {Q : Exit → Act → World → Prop} {listed : Array Bool} {a : Act} {w : World} (h : OnWay3 ops E Spec w0 a0 F listed a w) {i : Nat} (hi : i ∈ Region.ready .any ops listed) :
    wpOp P ops Q i (OnWay3 ops E Spec w0 a0 F (listed.setIfInBounds i true)) a w := by
  obtain ⟨hcl, hls, g, hg, rfl, hall⟩ := h
  obtain ⟨hun0, o, ho, hready⟩ := mem_ready.1 hi
  have hilt := (Array.getElem?_eq_some_iff.1 ho).1
  have hun : listed.getD i false = false := by
    have hi' : i < listed.size := by omega
    simp [hi'] at hun0 ⊢; exact hun0
  have hcl' := closed_step hcl ho hready
  have hls' : (listed.setIfInBounds i true).size = ops.size := by simpa using hls
  have hstep := stage_step hch hnd hcl hls ho hun hready
  have hlo := lo_step hch hcl hready
  have hhi := hiR_le hcl hch i hun
  obtain ⟨nx, hnx⟩ : ∃ nx : Nat → World → World, ∀ k W, Spec k W (nx k W) := ⟨fun k W => (tot k W).choose, fun k W => (tot k W).choose_spec⟩
  -- at each way that fits
  have at_ : ∀ g', Ok3 E Spec w0 g' → (∀ n, n ≤ stage E listed → g' n = g n) → ∃ A, execOp a.eval o = execOp A.eval o ∧ A.tmps.size = a.tmps.size ∧ Region.wanted o (yielded ops a.tmps) = Region.wanted o (yielded ops A.tmps) ∧ FixedG ops (Cl3 P ops E VE Spec g') (fun i => i ∉ E) (F g') A i o ∧ Fits ops a0 (F g') listed a := by
    intro g' h1 h2
    have hf := hall g' h1 h2
    obtain ⟨A, hA, hFA⟩ := hfx g' h1 i o ho
    have hlook := fits_look ok hcl hf ho hun hready hA
    exact ⟨A, exec_same ok.sel ho hlook, hA.size.trans hf.size.symm, wanted_same hlook, hFA, hf⟩
  obtain ⟨A, hex, hsz, hwa, hFA, hf⟩ := at_ g hg (fun _ _ => rfl)
  unfold wpOp
  simp only [ho]
  by_cases hw : Region.wanted o (yielded ops a.tmps) = true
  · rw [if_pos hw]
    by_cases hE : i ∈ E
    · rw [if_pos hE] at hstep
      obtain ⟨v, hv, hF⟩ := hFA.1 (by rw [← hwa]; exact hw)
      unfold Cl3 at hv
      rw [if_pos hE] at hv
      rw [hstep.1]
      refine .inl (Oper.wp_mono (fun a' w' h => ?_) (wp_at3 hv.2 hex hsz))
      obtain ⟨rfl, hs⟩ := h
      generalize hk : E.idxOf i = k at *
      refine ⟨hcl', hls', fun n => if n ≤ k then g n else contW nx k w' (n - (k + 1)), ⟨?_, ?_⟩, ?_, ?_⟩
      · show (if 0 ≤ k then g 0 else _) = w0
        rw [if_pos (Nat.zero_le _)]; exact hg.1
      · intro n hn
        rcases Nat.lt_trichotomy n k with h1 | h1 | h1
        · show Spec n (if n ≤ k then g n else _) (if n + 1 ≤ k then g (n + 1) else _)
          rw [if_pos (by omega), if_pos (by omega)]
          exact hg.2 n hn
        · subst h1
          show Spec n (if n ≤ n then g n else _) (if n + 1 ≤ n then g (n + 1) else contW nx n w' (n + 1 - (n + 1)))
          rw [if_pos (by omega), if_neg (by omega), Nat.sub_self]
          exact hs
        · show Spec n (if n ≤ k then g n else contW nx k w' (n - (k + 1))) (if n + 1 ≤ k then g (n + 1) else contW nx k w' (n + 1 - (k + 1)))
          rw [if_neg (by omega), if_neg (by omega), show n + 1 - (k + 1) = (n - (k + 1)) + 1 by omega]
          have := hnx n (contW nx k w' (n - (k + 1)))
          show Spec n _ (nx (k + 1 + (n - (k + 1))) _)
          rw [show k + 1 + (n - (k + 1)) = n by omega]
          exact this
      · rw [hstep.2]
        show w' = if k + 1 ≤ k then g (k + 1) else contW nx k w' (k + 1 - (k + 1))
        rw [if_neg (by omega), Nat.sub_self]
        rfl
      · intro g' h1 h2
        rw [hstep.2] at h2
        have h3 : ∀ n, n ≤ k → g' n = g n := fun n hn => by
          rw [h2 n (by omega)]
          show (if n ≤ k then g n else _) = g n
          rw [if_pos hn]
        have h4 : g' (k + 1) = w' := by
          rw [h2 (k + 1) (Nat.le_refl _)]
          show (if k + 1 ≤ k then g (k + 1) else contW nx k w' (k + 1 - (k + 1))) = w'
          rw [if_neg (by omega), Nat.sub_self]
          rfl
        obtain ⟨A', hex', hsz', hwa', hFA', hf'⟩ := at_ g' h1 (by rw [hstep.1]; exact h3)
        obtain ⟨v', hv', hF'⟩ := hFA'.1 (by rw [← hwa']; exact hw)
        unfold Cl3 at hv'
        rw [if_pos hE, hk, h3 k (Nat.le_refl _), h4] at hv'
        rw [hv'.1] at hF'
        exact fits_step hls hf' ho _ hF'
    · rw [if_neg hE] at hstep
      have one : ∀ g', Ok3 E Spec w0 g' → (∀ n, n ≤ stage E listed → g' n = g n) → ∃ v, (F g').put o.dst v = F g' ∧ plainB o = true ∧ o.wp P a (g (stage E listed)) (fun a' w' => a' = a.put o.dst v ∧ w' = g (stage E listed)) Q := by
        intro g' h1 h2
        obtain ⟨A', hex', hsz', hwa', hFA', hf'⟩ := at_ g' h1 h2
        obtain ⟨v', hv', hF'⟩ := hFA'.1 (by rw [← hwa']; exact hw)
        unfold Cl3 at hv'
        rw [if_neg hE] at hv'
        have h3 := (hv'.2 (stage E listed) hlo hhi).at_ hex' hsz' (Q := Q) (g (stage E listed)) (h2 _ (Nat.le_refl _)).symm
        rw [h2 _ (Nat.le_refl _)] at h3
        exact ⟨v', hF', hv'.1, h3⟩
      obtain ⟨v0, _, hpl, h0⟩ := one g hg (fun _ _ => rfl)
      have hpv := fun r w' => plain_value (P := P) (ρ := a.eval) hpl (w := g (stage E listed)) (w' := w') (r := r)
      refine .inl ?_
      unfold Oper.wp at h0 one ⊢
      generalize (execOp a.eval o).run P (g (stage E listed)) = r at *
      cases r with
      | halt x w' => cases x <;> simp only [Oper.upon] at h0 ⊢ <;> exact h0
      | ok n w' =>
        obtain ⟨u, rfl⟩ := hpv n w' rfl
        simp only [Oper.upon] at h0 one ⊢
        obtain ⟨_, rfl⟩ := h0
        refine ⟨hcl', hls', g, hg, by rw [hstep], fun g' h1 h2 => ?_⟩
        rw [hstep] at h2
        obtain ⟨v', hF', _, h3, _⟩ := one g' h1 h2
        rw [h3]
        exact fits_step hls (hall g' h1 h2) ho _ hF'
  · rw [if_neg hw]
    have hE : i ∉ E := (hFA.2 (by rw [← hwa]; simpa using hw)).1
    rw [if_neg hE] at hstep
    refine ⟨hcl', hls', g, hg, by rw [hstep], fun g' h1 h2 => ?_⟩
    rw [hstep] at h2
    obtain ⟨A', hex', hsz', hwa', hFA', hf'⟩ := at_ g' h1 h2
    exact fits_step hls hf' ho _ (hFA'.2 (by rw [← hwa']; simpa using hw)).2
theorem onWay3_any {E : List Nat} {VE : Nat → World → World → Value} {Spec : Nat → World → World → Prop} {w0 : World} {a0 : Act} {F : (Nat → World) → Act} (ok : FixOk2 ops) (hch : chainE ops E = true) (hnd : E.Nodup) (hEb : ∀ e ∈ E, e < ops.size) (tot : ∀ k W, ∃ W', Spec k W W')
    (hF0 : ∀ g, Ok3 E Spec w0 g → ∀ t : Nat, (∀ (j : Nat) (o : Oper), ops[j]? = some o → o.dst ≠ some t) → (F g).tmps[t]? = a0.tmps[t]?)
    (hfx : ∀ g, Ok3 E Spec w0 g → ∀ (j : Nat) (o : Oper), ops[j]? = some o → ∃ A, Before ops 0 j a0 (F g) A ∧ FixedG ops (Cl3 P ops E VE Spec g) (fun i => i ∉ E) (F g) A j o) {Q : Exit → Act → World → Prop} (hQ : ∀ g, Ok3 E Spec w0 g → Q .normal (F g) (g E.length)) :
    ∀ (fuel : Nat) (listed : Array Bool) (a : Act) (w : World), ((List.range ops.size).filter fun i => !listed.getD i true).length ≤ fuel → OnWay3 ops E Spec w0 a0 F listed a w → wpAny P .any ops Q fuel listed a w := by
  have fin : ∀ (listed : Array Bool) (a : Act) (w : World), Region.ready .any ops listed = [] → OnWay3 ops E Spec w0 a0 F listed a w → Q .normal a w := by
    intro listed a w hr ⟨hcl, hls, g, hg, hw, hall⟩
    have hf := hall g hg (fun _ _ => rfl)
    have hl := all_listed2 ok hr hls
    have hA : a = F g := act_ext hf.def_ fun t => by
      by_cases hw : ∃ (j : Nat) (o : Oper), ops[j]? = some o ∧ o.dst = some t
      · obtain ⟨j, o, ho, hd⟩ := hw
        exact hf.new t j o ho hd (hl j (Array.getElem?_eq_some_iff.1 ho).1)
      · rw [hf.old t fun j o ho hd => absurd ⟨j, o, ho, hd⟩ hw, hF0 g hg t fun j o ho hd => hw ⟨j, o, ho, hd⟩]
    have hS : stage E listed = E.length := by
      unfold stage
      rw [List.filter_eq_self.2 fun e he => hl e (hEb e he)]
    rw [hA, hw, hS]
    exact hQ g hg
  intro fuel
  induction fuel with
  | zero =>
    intro listed a w hc h
    have hr : Region.ready .any ops listed = [] := by
      cases hq : Region.ready .any ops listed with
      | nil => rfl
      | cons i l =>
        have hm : i ∈ Region.ready .any ops listed := by rw [hq]; simp
        obtain ⟨h0, o, ho, _⟩ := mem_ready.1 hm
        have : i ∈ (List.range ops.size).filter fun i => !listed.getD i true := List.mem_filter.2 ⟨List.mem_range.2 (Array.getElem?_eq_some_iff.1 ho).1, by simpa using h0⟩
        rw [List.eq_nil_of_length_eq_zero (Nat.le_zero.1 hc)] at this
        cases this
    exact ⟨hr, fin listed a w hr h⟩
  | succ fuel ih =>
    intro listed a w hc h
    refine ⟨fun hr => fin listed a w hr h, fun i hi => ?_⟩
    refine wpOp_mono (fun a' w' h' => ih (listed.setIfInBounds i true) a' w' ?_ h') (onWay3_step ok hch hnd tot hfx h hi)
    obtain ⟨h0, o, ho, _⟩ := mem_ready.1 hi
    have hilt := (Array.getElem?_eq_some_iff.1 ho).1
    have hls := h.2.1
    have hsub : ∀ (l : List Nat), l.Nodup → i ∈ l → (l.filter fun j => !(listed.setIfInBounds i true).getD j true).length < (l.filter fun j => !listed.getD j true).length := by
      intro l
      induction l with
      | nil => intro _ h; cases h
      | cons x l ihl =>
        intro hn hm
        rw [List.nodup_cons] at hn
        by_cases hx : x = i
        · subst hx
          have hrest : (l.filter fun j => !(listed.setIfInBounds x true).getD j true) = l.filter fun j => !listed.getD j true := by
            refine List.filter_congr fun j hj => ?_
            have hne : x ≠ j := fun e => hn.1 (e ▸ hj)
            rw [getD_set_ne true hne]
          have hxl : x < listed.size := by omega
          have h1 : (listed.setIfInBounds x true).getD x true = true := by simp [hxl]
          rw [List.filter_cons, List.filter_cons, hrest, h1, h0]
          simp
        · have hm' : i ∈ l := by
            rcases List.mem_cons.1 hm with e | e
            · exact absurd e.symm hx
            · exact e
          have := ihl hn.2 hm'
          rw [List.filter_cons, List.filter_cons, getD_set_ne true (Ne.symm hx)]
          split
          · simpa using this
          · exact this
    have := hsub (List.range ops.size) List.nodup_range (List.mem_range.2 hilt)
    omega
/-- THE RULE: E the places of the operations that change the world, VE what each yields (of the world before, the world behind), Spec what each does -/
theorem region_fix3 {id : Nat} {l : List Oper} {Q : Exit → Act → World → Prop} {a : Act} {w : World} (E : List Nat) (VE : Nat → World → World → Value) (Spec : Nat → World → World → Prop) (hm : P.follows .mixedOrders = true) (hB : (fixB2 l.toArray && chainE l.toArray E && decide (E.Nodup) && E.all (fun e => decide (e < l.toArray.size))) = true)
    (tot : ∀ k W, ∃ W', Spec k W W') (h : ∀ g : Nat → World, g 0 = w.drew → (∀ k, k < E.length → Spec k (g k) (g (k + 1))) → fixRun3 P l.toArray E VE Spec g (fun a' => Q .normal a' (g E.length)) l 0 a) : (Code.region id l.toArray true).wp P Q a w := by
  simp only [Bool.and_eq_true, decide_eq_true_eq, List.all_eq_true] at hB
  obtain ⟨⟨⟨hfix, hch⟩, hnd⟩, hEb⟩ := hB
  have ok := fixOk2 hfix
  have hh : ∀ g, Ok3 E Spec w.drew g → ∃ F : Act, Q .normal F (g E.length) ∧ F.tmps.size = a.tmps.size ∧ F.defers = a.defers ∧ (∀ t : Nat, (∀ (j : Nat) (o : Oper), 0 ≤ j → l.toArray[j]? = some o → o.dst ≠ some t) → F.tmps[t]? = a.tmps[t]?) ∧ ∀ (j : Nat) (o : Oper), 0 ≤ j → l.toArray[j]? = some o → ∃ A, Before l.toArray 0 j a F A ∧ FixedG l.toArray (Cl3 P l.toArray E VE Spec g) (fun i => i ∉ E) F A j o := fun g hg => fix_allG ok l 0 a (by simp) (h g hg.1 hg.2)
  classical
  let F : (Nat → World) → Act := fun g => if hg : Ok3 E Spec w.drew g then (hh g hg).choose else a
  have hF : ∀ g, Ok3 E Spec w.drew g → Q .normal (F g) (g E.length) ∧ (F g).tmps.size = a.tmps.size ∧ (F g).defers = a.defers ∧ (∀ t : Nat, (∀ (j : Nat) (o : Oper), 0 ≤ j → l.toArray[j]? = some o → o.dst ≠ some t) → (F g).tmps[t]? = a.tmps[t]?) ∧ ∀ (j : Nat) (o : Oper), 0 ≤ j → l.toArray[j]? = some o → ∃ A, Before l.toArray 0 j a (F g) A ∧ FixedG l.toArray (Cl3 P l.toArray E VE Spec g) (fun i => i ∉ E) (F g) A j o := by
    intro g hg
    have e : F g = (hh g hg).choose := dif_pos hg
    rw [e]
    exact (hh g hg).choose_spec
  clear_value F
  have hrep : ∀ j : Nat, (Array.replicate l.toArray.size false).getD j false = false := by
    intro j
    rw [Array.getD_eq_getD_getElem?, Array.getElem?_replicate]
    split <;> rfl
  have hst0 : stage E (Array.replicate l.toArray.size false) = 0 := by
    unfold stage
    rw [List.filter_eq_nil_iff.2 (fun e _ => by rw [hrep]; decide)]
    rfl
  obtain ⟨nx, hnx⟩ : ∃ nx : Nat → World → World, ∀ k W, Spec k W (nx k W) := ⟨fun k W => (tot k W).choose, fun k W => (tot k W).choose_spec⟩
  let g0 : Nat → World := fun n => Nat.rec w.drew (fun k W => nx k W) n
  have hg0 : Ok3 E Spec w.drew g0 := ⟨rfl, fun k _ => hnx k (g0 k)⟩
  refine wp_region_any hm (onWay3_any (a0 := a) (F := F) ok hch hnd hEb tot (fun g hg t ht => (hF g hg).2.2.2.1 t fun j o _ ho => ht j o ho) (fun g hg j o ho => (hF g hg).2.2.2.2 j o (Nat.zero_le _) ho) (fun g hg => (hF g hg).1) _ _ a _ ?_ ⟨?_, by simp, g0, hg0, by rw [hst0]; rfl, fun g' hg' _ => ⟨(hF g' hg').2.1.symm, (hF g' hg').2.2.1.symm, ?_, fun _ _ => rfl⟩⟩)
  · refine Nat.le_trans (List.length_filter_le _ _) (by simp)
  · intro j o _ hl
    rw [hrep] at hl
    cases hl
  · intro t j o _ _ hl
    rw [hrep] at hl
    cases hl
section
variable {E : List Nat} {VE : Nat → World → World → Value} {Spec : Nat → World → World → Prop} {g : Nat → World} {K : Act → Prop} {a : Act} {o : Oper} {rest : List Oper} {i : Nat}
theorem fix3_nil (h : K a) : fixRun3 P ops E VE Spec g K [] i a := h
theorem fix3_step (v : Value) (hE : (!decide (i ∈ E) && plainB o) = true) (hw : Region.wanted o (yielded ops a.tmps) = true)
    (h : ∀ (J : Act → World → Prop) (s : Nat), loOf E o ≤ s → s ≤ hiR ops E i → (∀ w, w = g s → J (a.put o.dst v) w) → o.wp P a (g s) J (fun _ _ _ => False)) (hr : ∀ J : Act → Prop, (∀ a', fixRun3 P ops E VE Spec g K rest (i + 1) a' → J a') → J (a.put o.dst v)) : fixRun3 P ops E VE Spec g K (o :: rest) i a := by
  simp only [Bool.and_eq_true, Bool.not_eq_true', decide_eq_false_iff_not] at hE
  unfold fixRun3 fixRunG
  rw [if_pos hw]
  refine ⟨v, ?_, hr _ fun _ h => h⟩
  unfold Cl3
  rw [if_neg hE.1]
  refine ⟨hE.2, fun s h1 h2 w hI => ?_⟩
  rw [hI]
  exact h _ s h1 h2 fun _ h => ⟨rfl, h⟩
theorem fix3_mid (v : Value) (lo hi : Nat) (hE : (!decide (i ∈ E) && plainB o && decide (hiR ops E i ≤ hi) && decide (lo ≤ loOf E o)) = true) (hw : Region.wanted o (yielded ops a.tmps) = true)
    (h : ∀ (J : Act → World → Prop) (s : Nat), lo ≤ s → s ≤ hi → (∀ w, w = g s → J (a.put o.dst v) w) → o.wp P a (g s) J (fun _ _ _ => False)) (hr : ∀ J : Act → Prop, (∀ a', fixRun3 P ops E VE Spec g K rest (i + 1) a' → J a') → J (a.put o.dst v)) : fixRun3 P ops E VE Spec g K (o :: rest) i a := by
  simp only [Bool.and_eq_true, Bool.not_eq_true', decide_eq_false_iff_not, decide_eq_true_eq] at hE
  refine fix3_step v (by simp [hE.1.1]) hw (fun J s h1 h2 hJ => h J s (by omega) (by omega) hJ) hr
/-- at one stage alone -/
theorem fix3_one (s : Nat) (hE : (!decide (i ∈ E) && plainB o && decide (hiR ops E i ≤ s) && decide (s ≤ loOf E o)) = true) (hw : Region.wanted o (yielded ops a.tmps) = true)
    (h : ∀ J : Act → Prop, (∀ a', fixRun3 P ops E VE Spec g K rest (i + 1) a' → J a') → o.still P a (g s) J) : fixRun3 P ops E VE Spec g K (o :: rest) i a := by
  simp only [Bool.and_eq_true, Bool.not_eq_true', decide_eq_false_iff_not, decide_eq_true_eq] at hE
  obtain ⟨⟨⟨hE, hpl⟩, hhi⟩, hlo⟩ := hE
  have h1 := h _ (fun _ h => h)
  have key : ∃ v, o.wp P a (g s) (fun a' w' => a' = a.put o.dst v ∧ w' = g s) (fun _ _ _ => False) ∧ fixRun3 P ops E VE Spec g K rest (i + 1) (a.put o.dst v) := by
    have hpv := fun r w' => plain_value (P := P) (ρ := a.eval) hpl (w := g s) (w' := w') (r := r)
    unfold Oper.still at h1
    unfold Oper.wp
    generalize (execOp a.eval o).run P (g s) = r at *
    cases r with
    | halt x w' => simp only [Oper.stillUpon] at h1
    | ok n w' =>
      obtain ⟨u, rfl⟩ := hpv n w' rfl
      simp only [Oper.stillUpon, Oper.upon] at h1 ⊢
      exact ⟨u, ⟨rfl, h1.1⟩, h1.2⟩
  obtain ⟨v, hv, hr⟩ := key
  unfold fixRun3 fixRunG
  rw [if_pos hw]
  refine ⟨v, ?_, hr⟩
  unfold Cl3
  rw [if_neg hE]
  refine ⟨hpl, fun s' h1 h2 w hI => ?_⟩
  obtain rfl : s' = s := by omega
  rw [hI]
  exact hv
theorem fix3_eff (k : Nat) (v : Value) (hv : VE k (g k) (g (k + 1)) = v) (hE : (decide (i ∈ E) && E.idxOf i == k) = true) (hw : Region.wanted o (yielded ops a.tmps) = true)
    (h : ∀ (J : Act → World → Prop), (∀ w', Spec k (g k) w' → J (a.put o.dst (VE k (g k) w')) w') → o.wp P a (g k) J (fun _ _ _ => False)) (hr : ∀ J : Act → Prop, (∀ a', fixRun3 P ops E VE Spec g K rest (i + 1) a' → J a') → J (a.put o.dst v)) : fixRun3 P ops E VE Spec g K (o :: rest) i a := by
  subst hv
  simp only [Bool.and_eq_true, decide_eq_true_eq, beq_iff_eq] at hE
  unfold fixRun3 fixRunG
  rw [if_pos hw]
  refine ⟨_, ?_, hr _ fun _ h => h⟩
  unfold Cl3
  rw [if_pos hE.1, hE.2]
  exact ⟨rfl, h _ fun w' hs => ⟨rfl, hs⟩⟩
theorem fix3_skip (hE : decide (i ∈ E) = false) (hw : Region.wanted o (yielded ops a.tmps) = false)
    (hr : fixRun3 P ops E VE Spec g K rest (i + 1) (a.put o.dst undef)) : fixRun3 P ops E VE Spec g K (o :: rest) i a := by
  unfold fixRun3 fixRunG
  rw [if_neg (by rw [hw]; decide)]
  exact ⟨by simpa using hE, hr⟩
end
end
end Go.Proofs.Ytakefjdckacgpaa.Cod

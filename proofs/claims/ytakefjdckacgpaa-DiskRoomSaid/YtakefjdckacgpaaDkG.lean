/- disk, plain: what plays keep; what a crash leaves. -/
import Derived.Test.YtakefjdckacgpaaDskT
namespace Go.Proofs.Ytakefjdckacgpaa.Cod
theorem fput_length (l : List Fl) (n : ByteArray) (v : ByteArray × Nat) : (fput l n v).length ≤ l.length + 1 := by
  unfold fput
  split <;> simp
theorem fdel_length (l : List Fl) (n : ByteArray) : (fdel l n).length ≤ l.length := List.length_filter_le _ _
structure Gd (s : Dst) (k : Nat) : Prop where
  names : ∀ f ∈ s.files, f.1.size ≤ 20
  few : s.files.length ≤ k
  deeds : s.deeds ≤ k
theorem Gd.ok {s : Dst} {k : Nat} (h : Gd s k) (hk : k ≤ 100000) : NamesOk s.files := ⟨fun f hf => by
  have := h.names f hf
  unfold maxLen
  omega, by have := h.few; omega⟩
theorem Gd.mono {s : Dst} {k k' : Nat} (h : Gd s k) (hk : k ≤ k') : Gd s k' := ⟨h.names, by have := h.few; omega, by have := h.deeds; omega⟩
theorem gd_new (r : Int) : Gd ⟨[], r, 0, -1, false⟩ 0 := ⟨(fun f hf => by cases hf), by simp, by simp⟩
theorem deedR_gd {s : Dst} {k : Nat} (h : Gd s k) (n : ByteArray) (asked : Bool) (em : Int) (fs : List Fl) (h1 : ∀ f ∈ fs, f.1.size ≤ 20) (h2 : fs.length ≤ k + 1) : Gd (deedR s n asked em fs).2 (k + 1) := by
  have hm : Gd s (k + 1) := h.mono (by omega)
  unfold deedR
  split
  · exact hm
  split
  · exact hm
  split
  · exact hm
  split
  · exact ⟨hm.names, hm.few, hm.deeds⟩
  · rename_i h0
    refine ⟨h1, h2, ?_⟩
    unfold turnR
    rw [if_neg h0]
    have := h.deeds
    show s.deeds + 1 ≤ _
    push_cast
    omega
theorem fput_names {l : List Fl} {n : ByteArray} {v : ByteArray × Nat} (h : ∀ f ∈ l, f.1.size ≤ 20) (hn : n.size ≤ 20) : ∀ f ∈ fput l n v, f.1.size ≤ 20 := fun f hf => by
  rcases mem_fput hf with hf | rfl
  · exact h f hf
  · exact hn
theorem fdel_names {l : List Fl} {n : ByteArray} (h : ∀ f ∈ l, f.1.size ≤ 20) : ∀ f ∈ fdel l n, f.1.size ≤ 20 := fun f hf => h f (List.mem_filter.1 hf).1
theorem doR_gd {s : Dst} {k : Nat} (h : Gd s k) (kd n : Int) (nm st : ByteArray) : Gd (doR s kd n nm st).2 (k + 1) := by
  have h3 := (cutB_size nm 3).1
  have h4 := (cutB_size st 3).1
  have hp := fun n v => fput_length s.files n v
  have hd := fun n => fdel_length s.files n
  have hf := h.few
  unfold doR
  split
  · exact deedR_gd h _ _ _ _ (fput_names h.names (by omega)) (by have := hp (cutB nm 3) ((fget s.files (cutB nm 3)).1, (fget s.files (cutB nm 3)).1.size); omega)
  split
  · exact deedR_gd h _ _ _ _ (fput_names h.names (by omega)) (by have := fun v => hp (cutB nm 3) v; exact Nat.le_trans (this _) (by omega))
  split
  · exact deedR_gd h _ _ _ _ (fput_names (fdel_names h.names) (by omega)) (Nat.le_trans (fput_length _ _ _) (by have := hd (cutB nm 3); omega))
  split
  · exact deedR_gd h _ _ _ _ (fdel_names h.names) (by have := hd (cutB nm 3); omega)
  · exact deedR_gd h _ _ _ _ (fput_names h.names (by omega)) (Nat.le_trans (hp _ _) (by omega))
/-- a disk that never halts -/
structure Up (s : Dst) : Prop where
  halt : s.halt = -1
  down : s.down = false
theorem deedR_up {s : Dst} (h : Up s) (n : ByteArray) (asked : Bool) (em : Int) (fs : List Fl) : Up (deedR s n asked em fs).2 := by
  unfold deedR
  rw [if_neg (by rw [h.down]; decide)]
  split
  · exact h
  split
  · exact h
  rw [if_neg (by rw [h.halt]; decide)]
  unfold turnR
  rw [if_neg (by rw [h.halt]; decide)]
  exact ⟨by rw [h.halt]; rfl, h.down⟩
theorem doR_up {s : Dst} (h : Up s) (kd n : Int) (nm st : ByteArray) : Up (doR s kd n nm st).2 := by
  unfold doR
  split
  · exact deedR_up h _ _ _ _
  split
  · exact deedR_up h _ _ _ _
  split
  · exact deedR_up h _ _ _ _
  split
  · exact deedR_up h _ _ _ _
  · exact deedR_up h _ _ _ _
/-! ## A crash -/
theorem fget_put (l : List Fl) (n k : ByteArray) (v : ByteArray × Nat) : fget (fput l n v) k = if k = n then v else fget l k := by
  unfold fget
  rw [ffind_put]
  split <;> rfl
theorem isSome_of_loose {l : List Fl} {n : ByteArray} (h : ¬ (fget l n).1.size = (fget l n).2) : (ffind l n).isSome = true := by
  cases hq : ffind l n with
  | some v => rfl
  | none =>
    unfold fget at h
    rw [hq] at h
    exact absurd rfl h
theorem fput_keys_some {l : List Fl} {n : ByteArray} (h : (ffind l n).isSome = true) (v : ByteArray × Nat) : (fput l n v).map (·.1) = l.map (·.1) := by
  rw [fput_keys, if_pos h]
theorem crashGo_keys (ns : List ByteArray) : ∀ (cs : List Int) (fs : List Fl), (crashGo ns cs fs).map (·.1) = fs.map (·.1) := by
  induction ns with
  | nil => intro cs fs; rfl
  | cons n ns ih =>
    intro cs fs
    by_cases h : (fget fs n).1.size = (fget fs n).2
    · rw [crashGo_none h]; exact ih _ _
    · rw [crashGo_some h, ih, fput_keys_some (isSome_of_loose h)]
theorem crashGo_length (ns : List ByteArray) (cs : List Int) (fs : List Fl) : (crashGo ns cs fs).length = fs.length := by
  have := congrArg List.length (crashGo_keys ns cs fs)
  simpa using this
/-- how a file may have come out of a crash -/
structure Kept (a b : ByteArray × Nat) : Prop where
  bytes : b.1 = a.1.extract 0 b.1.size
  le : b.1.size ≤ a.1.size
  sure : a.2 ≤ b.2
  sure' : b.2 ≤ b.1.size
theorem Kept.refl {a : ByteArray × Nat} (h : a.2 ≤ a.1.size) : Kept a a := ⟨(by simp), Nat.le_refl _, Nat.le_refl _, h⟩
theorem Kept.trans {a b c : ByteArray × Nat} (h : Kept a b) (k : Kept b c) : Kept a c := by
  refine ⟨?_, Nat.le_trans k.le h.le, Nat.le_trans h.sure k.sure, k.sure'⟩
  have h1 := k.bytes
  rw [h.bytes, ByteArray.extract_extract, Nat.zero_add, Nat.zero_add, Nat.min_eq_left k.le] at h1
  exact h1
def stepF (f : ByteArray × Nat) (cs : List Int) : ByteArray × Nat := (f.1.extract 0 (f.2 + keepC cs (f.1.size - f.2)), f.2 + keepC cs (f.1.size - f.2))
theorem stepF_kept {f : ByteArray × Nat} (h : f.2 ≤ f.1.size) (cs : List Int) : Kept f (stepF f cs) ∧ (stepF f cs).1.size = (stepF f cs).2 := by
  have hk := keepC_le cs (f.1.size - f.2)
  have hs : (stepF f cs).1.size = f.2 + keepC cs (f.1.size - f.2) := by
    unfold stepF
    rw [ByteArray.size_extract]
    omega
  refine ⟨⟨?_, ?_, ?_, ?_⟩, hs⟩
  · rw [hs]; rfl
  · rw [hs]; omega
  · show f.2 ≤ f.2 + _; omega
  · rw [hs]; exact Nat.le_refl _
theorem crashGo_kept (ns : List ByteArray) : ∀ (cs : List Int) (fs : List Fl) (n : ByteArray), (∀ k, (fget fs k).2 ≤ (fget fs k).1.size) → Kept (fget fs n) (fget (crashGo ns cs fs) n) ∧ (n ∈ ns → (fget (crashGo ns cs fs) n).1.size = (fget (crashGo ns cs fs) n).2) := by
  induction ns with
  | nil => intro cs fs n h; exact ⟨Kept.refl (h n), fun h => by cases h⟩
  | cons x ns ih =>
    intro cs fs n h
    by_cases hx : (fget fs x).1.size = (fget fs x).2
    · rw [crashGo_none hx]
      obtain ⟨h1, h2⟩ := ih cs fs n h
      refine ⟨h1, fun hm => ?_⟩
      rcases List.mem_cons.1 hm with rfl | hm
      · have a1 := h1.le
        have a2 := h1.sure
        have a3 := h1.sure'
        omega
      · exact h2 hm
    · rw [crashGo_some hx]
      have hst := stepF_kept (h x) cs
      have hput : ∀ k, fget (fput fs x (stepF (fget fs x) cs)) k = if k = x then stepF (fget fs x) cs else fget fs k := fun k => fget_put _ _ _ _
      have hall : ∀ k, (fget (fput fs x (stepF (fget fs x) cs)) k).2 ≤ (fget (fput fs x (stepF (fget fs x) cs)) k).1.size := fun k => by
        rw [hput]
        split
        · rw [hst.2]; exact Nat.le_refl _
        · exact h k
      obtain ⟨h1, h2⟩ := ih cs.tail _ n hall
      change Kept (fget fs n) (fget (crashGo ns cs.tail (fput fs x (stepF (fget fs x) cs))) n) ∧ (n ∈ x :: ns → (fget (crashGo ns cs.tail (fput fs x (stepF (fget fs x) cs))) n).1.size = (fget (crashGo ns cs.tail (fput fs x (stepF (fget fs x) cs))) n).2)
      by_cases hn : n = x
      · subst hn
        rw [hput, if_pos rfl] at h1
        refine ⟨hst.1.trans h1, fun _ => ?_⟩
        have a1 := h1.le
        have a2 := h1.sure
        have a3 := h1.sure'
        have a4 := hst.2
        omega
      · rw [hput, if_neg hn] at h1
        refine ⟨h1, fun hm => ?_⟩
        rcases List.mem_cons.1 hm with e | hm
        · exact absurd e hn
        · exact h2 hm
theorem crashGo_used (ns : List ByteArray) : ∀ (cs : List Int) (fs : List Fl), (fs.map (·.1)).Nodup → (∀ k, (fget fs k).2 ≤ (fget fs k).1.size) → used (crashGo ns cs fs) ≤ used fs := by
  induction ns with
  | nil => intro cs fs _ _; exact Nat.le_refl _
  | cons x ns ih =>
    intro cs fs hn h
    by_cases hx : (fget fs x).1.size = (fget fs x).2
    · rw [crashGo_none hx]; exact ih cs fs hn h
    · rw [crashGo_some hx]
      have hst := stepF_kept (h x) cs
      have hput : ∀ k, fget (fput fs x (stepF (fget fs x) cs)) k = if k = x then stepF (fget fs x) cs else fget fs k := fun k => fget_put _ _ _ _
      have h1 := ih cs.tail (fput fs x (stepF (fget fs x) cs)) (fput_nodup _ _ hn) (fun k => by
        rw [hput]
        split
        · rw [hst.2]; exact Nat.le_refl _
        · exact h k)
      have h2 := used_put' hn x (stepF (fget fs x) cs)
      have h3 := hst.1.le
      exact Nat.le_trans h1 (by omega)
theorem mem_dnames {fs : List Fl} {n : ByteArray} (h : n ∈ dnames fs) : (ffind fs n).isSome = true := by
  unfold dnames at h
  obtain ⟨l, hl, rfl⟩ := List.mem_map.1 h
  have h1 := (List.mergeSort_perm _ _).mem_iff.1 hl
  obtain ⟨f, hf, rfl⟩ := List.mem_map.1 h1
  cases hq : ffind fs ⟨f.1.data.toList.toArray⟩ with
  | some v => rfl
  | none => exact absurd rfl (ffind_none hq f hf)
theorem dnames_keys {fs gs : List Fl} (h : fs.map (·.1) = gs.map (·.1)) : dnames fs = dnames gs := by
  have e : ∀ l : List Fl, l.map (fun f => f.1.data.toList) = (l.map (·.1)).map (·.data.toList) := fun l => by rw [List.map_map]; rfl
  unfold dnames
  rw [e, e, h]
theorem ffind_isSome_keys {fs gs : List Fl} (h : fs.map (·.1) = gs.map (·.1)) (n : ByteArray) : (ffind fs n).isSome = (ffind gs n).isSome := by
  have e : ∀ l : List Fl, (ffind l n).isSome = (l.map (·.1)).any (fun x => decide (x = n)) := fun l => by
    induction l with
    | nil => rfl
    | cons x l ih =>
      by_cases hx : x.1 = n
      · simp [ffind, hx]
      · have : ffind (x :: l) n = ffind l n := by simp [ffind, hx]
        rw [this, ih]
        simp [hx]
  rw [e, e, h]
theorem readR_some {s : Dst} {n : ByteArray} (hd : s.down = false) (h : (ffind s.files n).isSome = true) : readR s n = ((fget s.files n).1, 0) := by
  unfold readR fget
  rw [if_neg (by rw [hd]; decide)]
  cases hq : ffind s.files n with
  | some v => rfl
  | none => rw [hq] at h; cases h
end Go.Proofs.Ytakefjdckacgpaa.Cod

/- Files: what a store, a deletion leave. Plain: no program. -/
import Derived.Test.YtakefjdckacgpaaDskA
namespace Go.Proofs.Ytakefjdckacgpaa.Cod
theorem mem_fput {l : List Fl} {n : ByteArray} {v : ByteArray × Nat} {g : Fl} (h : g ∈ fput l n v) : g ∈ l ∨ g = (n, v) := by
  unfold fput at h
  split at h
  · obtain ⟨x, hx, rfl⟩ := List.mem_map.1 h
    split
    · exact .inr rfl
    · exact .inl hx
  · rcases List.mem_append.1 h with h | h
    · exact .inl h
    · exact .inr (by simpa using h)
theorem fput_sure {l : List Fl} {n : ByteArray} {v : ByteArray × Nat} (h : ∀ f ∈ l, f.2.2 ≤ f.2.1.size) (hv : v.2 ≤ v.1.size) : ∀ f ∈ fput l n v, f.2.2 ≤ f.2.1.size := fun f hf => by
  rcases mem_fput hf with hf | rfl
  · exact h f hf
  · exact hv
theorem fdel_sure {l : List Fl} {n : ByteArray} (h : ∀ f ∈ l, f.2.2 ≤ f.2.1.size) : ∀ f ∈ fdel l n, f.2.2 ≤ f.2.1.size := fun f hf => h f (List.mem_filter.1 hf).1
theorem fdel_nodup {l : List Fl} (n : ByteArray) (h : (l.map (·.1)).Nodup) : ((fdel l n).map (·.1)).Nodup := (List.filter_sublist.map _).nodup h
theorem fput_nodup {l : List Fl} (n : ByteArray) (v : ByteArray × Nat) (h : (l.map (·.1)).Nodup) : ((fput l n v).map (·.1)).Nodup := by
  rw [fput_keys]
  cases hq : ffind l n with
  | some u => simpa using h
  | none =>
    simp only [Option.isSome_none, Bool.false_eq_true, if_false]
    refine List.nodup_append.2 ⟨h, by simp, fun a ha b hb e => ?_⟩
    obtain ⟨x, hx, rfl⟩ := List.mem_map.1 ha
    simp at hb
    exact ffind_none hq x hx (e.trans hb)
theorem used_put' {l : List Fl} (hn : (l.map (·.1)).Nodup) (n : ByteArray) (v : ByteArray × Nat) : used (fput l n v) + (fget l n).1.size = used l + v.1.size := used_put hn n v
theorem fdel_none {l : List Fl} {n : ByteArray} (h : ffind l n = none) : fdel l n = l := by
  unfold fdel
  exact List.filter_eq_self.2 fun x hx => by simp [ffind_none h x hx]
theorem used_del {l : List Fl} (hn : (l.map (·.1)).Nodup) (n : ByteArray) : used (fdel l n) + (fget l n).1.size = used l := by
  induction l with
  | nil => simp [fdel, used_nil, fget, ffind]
  | cons x l ih =>
    simp only [List.map_cons, List.nodup_cons] at hn
    by_cases hx : x.1 = n
    · have h0 : ffind l n = none := by
        unfold ffind
        rw [Option.map_eq_none_iff, List.find?_eq_none]
        intro y hy e
        exact hn.1 (by rw [hx]; exact List.mem_map.2 ⟨y, hy, by simpa using e⟩)
      have e1 : fdel (x :: l) n = l := by
        have : fdel (x :: l) n = fdel l n := by simp [fdel, hx]
        rw [this, fdel_none h0]
      have e2 : fget (x :: l) n = x.2 := by simp [fget, ffind, hx]
      rw [e1, e2, used_cons]
      omega
    · have e1 : fdel (x :: l) n = x :: fdel l n := by simp [fdel, hx]
      have e2 : fget (x :: l) n = fget l n := by simp [fget, ffind, hx]
      rw [e1, e2, used_cons, used_cons]
      have := ih hn.2
      omega
theorem ffind_del {l : List Fl} (n k : ByteArray) : ffind (fdel l n) k = if k = n then none else ffind l k := by
  induction l with
  | nil => simp [fdel, ffind]
  | cons x l ih =>
    by_cases hx : x.1 = n
    · have e1 : fdel (x :: l) n = fdel l n := by simp [fdel, hx]
      rw [e1, ih]
      by_cases hk : k = n
      · rw [if_pos hk, if_pos hk]
      · rw [if_neg hk, if_neg hk]
        have : ¬ x.1 = k := fun e => hk (by rw [← e, hx])
        simp [ffind, this]
    · have e1 : fdel (x :: l) n = x :: fdel l n := by simp [fdel, hx]
      rw [e1]
      by_cases hxk : x.1 = k
      · have hk : ¬ k = n := fun e => hx (by rw [hxk, e])
        rw [if_neg hk]
        simp [ffind, hxk]
      · have a1 : ffind (x :: fdel l n) k = ffind (fdel l n) k := by simp [ffind, hxk]
        have a2 : ffind (x :: l) k = ffind l k := by simp [ffind, hxk]
        rw [a1, a2, ih]
theorem DiskAt.nodup {w : World} {d m : Nat} {s : Dst} (h : DiskAt w d m s) : (s.files.map (·.1)).Nodup := by
  have := h.map.nodup
  rw [List.map_map] at this
  exact this
end Go.Proofs.Ytakefjdckacgpaa.Cod

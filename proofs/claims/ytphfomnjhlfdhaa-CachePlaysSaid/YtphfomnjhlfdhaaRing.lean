/- A ring of neighbours: what taking one out, and putting one in front, does. Plain: no program. -/
import Derived.Test.YtphfomnjhlfdhaaMapS
namespace Go.Proofs.Ytphfomnjhlfdhaa.Cod
def Chain (nx pv : Nat → Nat) : List Nat → Prop
  | a :: b :: l => nx a = b ∧ pv b = a ∧ Chain nx pv (b :: l)
  | _ => True
theorem Chain.congr {nx pv nx' pv' : Nat → Nat} : ∀ {l : List Nat}, (∀ a ∈ l.dropLast, nx' a = nx a) → (∀ b ∈ l.tail, pv' b = pv b) → Chain nx pv l → Chain nx' pv' l
  | [], _, _, _ => trivial
  | [_], _, _, _ => trivial
  | a :: b :: l, h1, h2, h => by
    obtain ⟨g1, g2, g3⟩ := h
    refine ⟨(h1 a (by simp [List.dropLast_cons_of_ne_nil])).trans g1, (h2 b (by simp)).trans g2, Chain.congr (fun x hx => h1 x ?_) (fun x hx => h2 x ?_) g3⟩
    · rw [List.dropLast_cons_of_ne_nil (by simp)]
      exact List.mem_cons_of_mem _ hx
    · simp only [List.tail_cons] at hx ⊢
      exact List.mem_cons_of_mem _ hx
theorem chain_append {nx pv : Nat → Nat} (a : Nat) (l2 : List Nat) : ∀ l1 : List Nat, Chain nx pv (l1 ++ a :: l2) ↔ Chain nx pv (l1 ++ [a]) ∧ Chain nx pv (a :: l2)
  | [] => by simp [Chain]
  | [b] => by simp [Chain, and_assoc]
  | b :: c :: l1 => by
    have ih := chain_append (nx := nx) (pv := pv) a l2 (c :: l1)
    simp only [List.cons_append, Chain] at ih ⊢
    rw [ih]
    simp only [and_assoc]
/-- h, then bs, and back to h -/
def Ring (nx pv : Nat → Nat) (h : Nat) (bs : List Nat) : Prop := Chain nx pv (h :: bs ++ [h]) ∧ (h :: bs).Nodup
def upd (f : Nat → Nat) (a b : Nat) : Nat → Nat := fun x => if x = a then b else f x
theorem upd_same (f : Nat → Nat) (a b : Nat) : upd f a b a = b := if_pos rfl
theorem upd_ne {f : Nat → Nat} {a b x : Nat} (h : x ≠ a) : upd f a b x = f x := if_neg h
theorem ring_ends {nx pv : Nat → Nat} {h : Nat} {bs : List Nat} (r : Ring nx pv h bs) : nx h = (bs ++ [h]).headD h ∧ pv h = (h :: bs).getLast (List.cons_ne_nil _ _) := by
  obtain ⟨c, _⟩ := r
  constructor
  · cases bs with
    | nil => exact c.1
    | cons b bs => exact c.1
  · rcases List.eq_nil_or_concat bs with rfl | ⟨l, b, rfl⟩
    · exact c.2.1
    · have h1 : h :: l.concat b ++ [h] = (h :: l) ++ b :: [h] := by simp
      rw [h1, chain_append] at c
      have := c.2.2.1
      rw [this]
      simp [List.getLast_cons]
/-- one is taken out -/
theorem ring_out {nx pv : Nat → Nat} {h x : Nat} {pre post : List Nat} (r : Ring nx pv h (pre ++ x :: post)) :
    ∃ p q, pv x = p ∧ nx x = q ∧ p ∈ h :: pre ∧ q ∈ post ++ [h] ∧ Ring (upd nx p q) (upd pv q p) h (pre ++ post) := by
  obtain ⟨c, hn⟩ := r
  obtain ⟨l1, p, e1⟩ : ∃ l1 p, h :: pre = l1 ++ [p] := by
    rcases List.eq_nil_or_concat (h :: pre) with e | ⟨l, b, e⟩
    · cases e
    · exact ⟨l, b, by rw [e]; simp⟩
  obtain ⟨q, l2, e2⟩ : ∃ q l2, post ++ [h] = q :: l2 := by
    cases post with
    | nil => exact ⟨h, [], rfl⟩
    | cons b post => exact ⟨b, post ++ [h], rfl⟩
  have e0 : h :: (pre ++ x :: post) ++ [h] = l1 ++ p :: (x :: (q :: l2)) := by
    rw [← e2]
    have : h :: (pre ++ x :: post) ++ [h] = (h :: pre) ++ (x :: (post ++ [h])) := by simp
    rw [this, e1]
    simp
  have e3 : h :: (pre ++ post) ++ [h] = l1 ++ p :: (q :: l2) := by
    rw [← e2]
    have : h :: (pre ++ post) ++ [h] = (h :: pre) ++ (post ++ [h]) := by simp
    rw [this, e1]
    simp
  rw [e0, chain_append] at c
  obtain ⟨c1, c2, c3, c4, c5, c6⟩ := c
  have hn' : (h :: (pre ++ post)).Nodup := by
    have : (h :: pre ++ x :: post).Nodup := by simpa using hn
    have h2 := (List.perm_middle.nodup_iff).1 this
    have h3 := (List.nodup_cons.1 h2).2
    simpa using h3
  have hsplit : (l1 ++ [p] ++ post).Nodup := by rw [← e1]; simpa using hn'
  obtain ⟨n1, n2, n3⟩ := List.nodup_append.1 hsplit
  obtain ⟨n4, _, n5⟩ := List.nodup_append.1 n1
  have hmem : ∀ a ∈ l1 ++ [p], a = h ∨ a ∈ pre := fun a ha => by rw [← e1] at ha; simpa using ha
  have hhp : h ∉ post := by
    have := (List.nodup_cons.1 hn').1
    simp at this
    exact this.2
  have hhpre : h ∉ pre := by
    have := (List.nodup_cons.1 hn').1
    simp at this
    exact this.1
  have hpm : p ∈ h :: pre := by rw [e1]; simp
  refine ⟨p, q, c3, c4, hpm, by rw [e2]; simp, ?_, hn'⟩
  rw [e3, chain_append]
  refine ⟨Chain.congr ?_ ?_ c1, upd_same _ _ _, upd_same _ _ _, Chain.congr ?_ ?_ c6⟩
  · intro a ha
    rw [List.dropLast_concat] at ha
    exact upd_ne fun e => n5 a ha p (by simp) e
  · intro b hb
    have hb' : b ∈ pre := by rw [← e1] at hb; simpa using hb
    refine upd_ne fun e => ?_
    have hq : q ∈ post ++ [h] := by rw [e2]; simp
    rw [← e] at hq
    rcases List.mem_append.1 hq with hq | hq
    · exact n3 b (by rw [← e1]; simp [hb']) b hq rfl
    · simp at hq; exact hhpre (hq ▸ hb')
  · intro a ha
    have ha' : a ∈ post := by rw [← e2, List.dropLast_concat] at ha; exact ha
    exact upd_ne fun e => n3 p (by simp) a ha' e.symm
  · intro b hb
    simp only [List.tail_cons] at hb
    refine upd_ne fun e => ?_
    cases post with
    | nil =>
      have hl : l2 = [] := by
        simp at e2
        first | exact e2.2 | exact e2.2.symm
      rw [hl] at hb
      cases hb
    | cons d post =>
      simp only [List.cons_append, List.cons.injEq] at e2
      rw [← e2.2] at hb
      rw [e, ← e2.1] at hb
      rcases List.mem_append.1 hb with hb | hb
      · exact (List.nodup_cons.1 n2).1 hb
      · simp at hb; exact hhp (by rw [← hb]; simp)
/-- one is put in front -/
theorem ring_front {nx pv : Nat → Nat} {h x : Nat} {bs : List Nat} (r : Ring nx pv h bs) (hx : x ∉ h :: bs) : Ring (upd (upd nx x (nx h)) h x) (upd (upd pv x h) (nx h) x) h (x :: bs) := by
  obtain ⟨c, hn⟩ := r
  obtain ⟨q, l2, e2⟩ : ∃ q l2, bs ++ [h] = q :: l2 := by
    cases bs with
    | nil => exact ⟨h, [], rfl⟩
    | cons b bs => exact ⟨b, bs ++ [h], rfl⟩
  have e0 : h :: bs ++ [h] = h :: q :: l2 := by rw [List.cons_append, e2]
  have e3 : h :: (x :: bs) ++ [h] = h :: x :: q :: l2 := by simp [e2]
  rw [e0] at c
  obtain ⟨c1, c2, c3⟩ := c
  have hxh : x ≠ h := fun e => hx (by rw [e]; simp)
  have hxb : x ∉ bs := fun e => hx (by simp [e])
  have hq : q ∈ bs ++ [h] := by rw [e2]; simp
  have hxq : x ≠ q := fun e => by
    rw [← e] at hq
    rcases List.mem_append.1 hq with hq | hq
    · exact hxb hq
    · simp at hq; exact hxh hq
  obtain ⟨hhb, hnb⟩ := List.nodup_cons.1 hn
  refine ⟨?_, List.nodup_cons.2 ⟨fun e => ?_, List.nodup_cons.2 ⟨hxb, hnb⟩⟩⟩
  · rw [e3, c1]
    refine ⟨upd_same _ _ _, ?_, ?_, ?_, Chain.congr ?_ ?_ c3⟩
    · rw [upd_ne hxq, upd_same]
    · rw [upd_ne hxh, upd_same]
    · rw [upd_same]
    · intro a ha
      have ha' : a ∈ bs := by rw [← e2, List.dropLast_concat] at ha; exact ha
      rw [upd_ne (show a ≠ h from fun e => hhb (e ▸ ha')), upd_ne (show a ≠ x from fun e => hxb (e ▸ ha'))]
    · intro b hb
      simp only [List.tail_cons] at hb
      have hb' : b ∈ bs ++ [h] := by rw [e2]; simp [hb]
      have hbx : b ≠ x := fun e => by
        rw [e] at hb'
        rcases List.mem_append.1 hb' with h1 | h1
        · exact hxb h1
        · simp at h1; exact hxh h1
      have hbq : b ≠ q := fun e => by
        cases bs with
        | nil =>
          have hl : l2 = [] := by
            simp at e2
            first | exact e2.2 | exact e2.2.symm
          rw [hl] at hb
          cases hb
        | cons d bs =>
          simp only [List.cons_append, List.cons.injEq] at e2
          rw [← e2.2, e, ← e2.1] at hb
          rcases List.mem_append.1 hb with h1 | h1
          · exact (List.nodup_cons.1 hnb).1 h1
          · simp at h1; exact hhb (by rw [← h1]; simp)
      rw [upd_ne hbq, upd_ne hbx]
  · rcases List.mem_cons.1 e with e | e
    · exact hxh e.symm
    · exact hhb e
end Go.Proofs.Ytphfomnjhlfdhaa.Cod

/- disk: Used, Loose, Read, turn. -/
import Derived.Test.YtakefjdckacgpaaDsk
namespace Go.Proofs.Ytakefjdckacgpaa.Cod
open Go.RowKit Go.MapKept
open Go.ChangeMaps (setBlock)
def kleft (w : World) (r b : Nat) : Nat :=
  match w.heap[b]?, w.heap[r]? with
  | some (.map es _), some (.mapIter _ _ seen _) => (leftOf es seen).size
  | _, _ => 0
theorem RangeAt.left {w : World} {r b : Nat} {l rem : List KV} (h : RangeAt w r b l rem) : kleft w r b = rem.length := by
  obtain ⟨es, c, seen, h1, _, _, h4, h5⟩ := h
  unfold kleft
  rw [h1, h4]
  have := congrArg List.length h5
  simpa using this
def ksize (x : KV) : Nat := match x.2 with
  | .agg a => match (a[0]? : Option Value) with
    | some (Value.string s) => s.size
    | _ => 0
  | _ => 0
def ksum (l : List KV) : Nat := (l.map ksize).sum
theorem ksum_fkv (l : List Fl) : ksum (l.map fkv) = used l := by
  unfold ksum used
  rw [List.map_map]
  rfl
theorem ksum_perm {l m : List KV} (h : l.Perm m) : ksum l = ksum m := (h.map _).sum_nat
theorem ksum_cons (x : KV) (l : List KV) : ksum (x :: l) = ksize x + ksum l := by simp [ksum]
def UsedRel (w0 : World) (r m : Nat) (files : List Fl) (v : Value) (wr : World) : Prop :=
  ∃ rem : List KV, RangeAt wr r m (files.map fkv) rem ∧ (∀ x ∈ rem, ∃ f ∈ files, x = fkv f) ∧ (ksum rem ≤ used files) ∧ v = .int .i64 ((used files : Int) - ksum rem) ∧ Below w0.heap.size w0 wr ∧ w0.heap.size ≤ r
set_option maxHeartbeats 4000000 in
set_option maxRecDepth 100000 in
theorem D_used {w : World} {d m : Nat} {s : Dst} (h : DiskAt w d m s) : Calls Try.prog 10 #[ptr d] w fun e w' => e = .returned (.int .i64 (used s.files)) ∧ Below w.heap.size w w' := by
  have c0 := cell_of_row _ _ 0 _ _ _ h.cell
  have hu : (used s.files : Int) ≤ 1073741824 := by have := h.used; have := h.room; omega
  obtain ⟨o, hrg, hR⟩ := run_krange und_dm h.map
  have hml := h.lt.2.1
  generalize s.files = files at hR hu hrg ⊢
  have HR := Lib.hid hR
  clear h hR
  go_enter Try.func10, Try.ntmps10
  go_wp2
  go_loopw [3] (fun v wr => UsedRel w w.heap.size m files v wr) (fun _ wr => kleft wr w.heap.size m)
  case atStart => exact ⟨_, HR.out, fun x hx => (List.mem_map.1 hx).imp fun f hf => ⟨hf.1, hf.2.symm⟩, by rw [ksum_fkv]; omega, by rw [ksum_fkv]; simp, (Below.refl _ _).alloc (Nat.le_refl _) _, Nat.le_refl _⟩
  case round =>
    obtain ⟨rem, hr, hf, hle, rfl, hb, hge⟩ := hrel
    rcases run_knext (P := Try.prog) hr 0 with ⟨rfl, hrun⟩ | ⟨x, rem', w1, o, hp, hw1, hrun, hR', hent⟩
    · have HB := Lib.hid hb
      clear hr hb hf hle
      go_wp2
      go_ret
      exact ⟨by simp [ksum], HB.out⟩
    · obtain ⟨f, hfm, rfl⟩ := hf x (hp.mem_iff.2 (by simp))
      have hs : ksum rem = f.2.1.size + ksum rem' := by rw [ksum_perm hp, ksum_cons]; rfl
      have hlen := hp.length_eq
      have hl0 := hr.left
      have hb1 : Below w.heap.size w (setBlock w1 w.heap.size o) := by
        have h1 : Below w.heap.size w w1 := by rcases hw1 with rfl | rfl; exact hb; exact hb.drew
        exact ⟨h1.os, h1.tape, h1.output, by simpa [setBlock] using h1.size, fun k hk => (Array.getElem?_setIfInBounds_ne (by omega)).trans (h1.block k hk)⟩
      generalize setBlock w1 w.heap.size o = w2 at hrun hR' hent hb1
      have hlt2 := hR'.lt
      have hal : RangeAt (w2.alloc (.cells #[.string f.2.1, .int .i64 (f.2.2 : Int)] FLT)) w.heap.size m (files.map fkv) rem' := hR'.of_blocks (push_old hlt2.2.1) (push_old hlt2.1)
      have hfin : UsedRel w w.heap.size m files (.int .i64 ((used files : Int) - ksum rem + f.2.1.size)) (w2.alloc (.cells #[.string f.2.1, .int .i64 (f.2.2 : Int)] FLT)) :=
        ⟨rem', hal, fun y hy => hf y (hp.mem_iff.2 (by simp [hy])), by omega, by congr 1; omega, hb1.alloc hb1.size _, Nat.le_refl _⟩
      have HF := Lib.hid hfin
      have hm2 := hal.left
      have HM := Lib.hid hm2
      have HL := Lib.hid hl0
      have HLEN := Lib.hid hlen
      have hbd : ksum rem ≤ used files := hle
      have hfs : f.2.1.size ≤ ksum rem := by omega
      unfold fkv fval at hrun hent
      clear hr hf hle hb hp hs hlen hl0 hR' hb1 hlt2 hal hfin hm2 hw1
      obtain ⟨nm, ct, sr⟩ := f
      simp only at hrun hent hfs HF HM
      go_wp2
      go_roundw
      case rel => exact HF.out
      case measure =>
        rw [HM.out, HL.out, HLEN.out]
        simp
def fget (l : List Fl) (n : ByteArray) : ByteArray × Nat := (ffind l n).getD (ByteArray.empty, 0)
theorem ffind_mem {l : List Fl} {n : ByteArray} {v : ByteArray × Nat} (h : ffind l n = some v) : (n, v) ∈ l := by
  unfold ffind at h
  obtain ⟨p, hp, rfl⟩ := Option.map_eq_some_iff.1 h
  have h1 := List.find?_some hp
  have h2 := List.mem_of_find?_eq_some hp
  simp at h1
  subst h1
  exact h2
theorem used_mem {l : List Fl} {f : Fl} (h : f ∈ l) : f.2.1.size ≤ used l := by
  obtain ⟨a, b, rfl⟩ := List.append_of_mem h
  rw [used_append, used_cons]
  omega
theorem DiskAt.fget {w : World} {d m : Nat} {s : Dst} (h : DiskAt w d m s) (n : ByteArray) : (fget s.files n).2 ≤ (fget s.files n).1.size ∧ ((fget s.files n).1.size : Int) ≤ s.room := by
  have hu := h.used
  unfold Cod.fget
  cases hq : ffind s.files n with
  | none =>
    have := h.room.1
    simpa using this
  | some f =>
    have hm := ffind_mem hq
    have h1 := h.sure _ hm
    have h2 := used_mem hm
    simp only [Option.getD_some] at h1 h2 ⊢
    exact ⟨h1, by omega⟩
set_option maxHeartbeats 4000000 in
set_option maxRecDepth 100000 in
theorem D_loose {w : World} {d m : Nat} {s : Dst} (h : DiskAt w d m s) (n : ByteArray) : Calls Try.prog 20 #[ptr d, .string n] w fun e w' => e = .returned (.int .i64 (((fget s.files n).1.size : Int) - ((fget s.files n).2 : Int))) ∧ Below w.heap.size w w' := by
  have c0 := cell_of_row _ _ 0 _ _ _ h.cell
  have hlk := flook h.map n false
  simp only [Bool.false_eq_true, if_false] at hlk
  have hf := h.fget n
  have hr := h.room.2
  have e0 : (ffind s.files n).getD (ByteArray.empty, 0) = fget s.files n := rfl
  rw [e0] at hlk
  generalize fget s.files n = f at hlk hf ⊢
  obtain ⟨ct, sr⟩ := f
  unfold fval at hlk
  simp only at hlk hf ⊢
  have b1 : (ct.size : Int) ≤ 1073741824 := by omega
  have b2 : (sr : Int) ≤ (ct.size : Int) := by omega
  clear h e0 hf hr
  go_enter Try.func20, Try.ntmps20
  go_wp2
  go_ret
  exact ⟨rfl, (Below.refl _ _).alloc (Nat.le_refl _) _⟩
/-- what Read tells -/
def readR (s : Dst) (n : ByteArray) : ByteArray × Int :=
  if s.down then (ByteArray.empty, 6) else match ffind s.files n with
    | none => (ByteArray.empty, 7)
    | some f => (f.1, 0)
set_option maxHeartbeats 4000000 in
set_option maxRecDepth 100000 in
theorem D_read {w : World} {d m : Nat} {s : Dst} (h : DiskAt w d m s) (n : ByteArray) : Calls Try.prog 19 #[ptr d, .string n] w fun e w' => e = .returned (.tuple #[.string (readR s n).1, .int .i64 (readR s n).2]) ∧ Below w.heap.size w w' := by
  have c0 := cell_of_row _ _ 0 _ _ _ h.cell
  have c4 := cell_of_row _ _ 4 _ _ _ h.cell
  have hlk := flook h.map n true
  have hd := h.lt.1
  simp only [if_true] at hlk
  unfold readR
  cases hdn : s.down with
  | true =>
    rw [hdn] at c4
    generalize (ffind s.files n).isSome = b at hlk
    generalize (ffind s.files n).getD (ByteArray.empty, 0) = f at hlk
    obtain ⟨ct, sr⟩ := f
    unfold fval at hlk
    simp only at hlk
    clear h hdn
    go_enter Try.func19, Try.ntmps19
    go_wp2
    go_ret2
    exact ⟨rfl, (Below.refl _ _).alloc (Nat.le_refl _) _⟩
  | false =>
    rw [hdn] at c4
    cases hq : ffind s.files n with
    | none =>
      rw [hq] at hlk
      unfold fval at hlk
      simp only [Option.getD_none, Option.isSome_none] at hlk
      clear h hdn hq
      go_enter Try.func19, Try.ntmps19
      go_wp2
      go_ret2
      exact ⟨rfl, (Below.refl _ _).alloc (Nat.le_refl _) _⟩
    | some f =>
      rw [hq] at hlk
      obtain ⟨ct, sr⟩ := f
      unfold fval at hlk
      simp only [Option.getD_some, Option.isSome_some] at hlk
      clear h hdn hq
      go_enter Try.func19, Try.ntmps19
      go_wp2
      go_ret2
      exact ⟨rfl, (Below.refl _ _).alloc (Nat.le_refl _) _⟩
/-- one deed more, if there may be one -/
def turnR (s : Dst) : Int × Dst := if s.halt = 0 then (6, { s with down := true }) else (0, { s with halt := max (s.halt - 1) (-1), deeds := s.deeds + 1 })
set_option maxHeartbeats 4000000 in
set_option maxRecDepth 100000 in
theorem D_turn {w : World} {d m : Nat} {s : Dst} (h : DiskAt w d m s) (hds : s.deeds ≤ 1000000000) : Calls Try.prog 41 #[ptr d] w fun e w' => e = .returned (.int .i64 (turnR s).1) ∧ DiskAt w' d m (turnR s).2 ∧ Touch [d] w w' ∧ w'.heap.size = w.heap.size := by
  have c2 := cell_of_row _ _ 2 _ _ _ h.cell
  have c3 := cell_of_row _ _ 3 _ _ _ h.cell
  have c4 := cell_of_row _ _ 4 _ _ _ h.cell
  have z2 := frozen_of_row _ _ 2 _ _ h.cell
  have z3 := frozen_of_row _ _ 3 _ _ h.cell
  have z4 := frozen_of_row _ _ 4 _ _ h.cell
  have hh := h.halt
  have hd0 := h.deeds
  unfold turnR
  by_cases hq : s.halt = 0
  · rw [if_pos hq]
    have fin : DiskAt (w.setCell ⟨d, 4, none⟩ (.bool true)) d m { s with down := true } := h.set (room := s.room) (deeds := s.deeds) (halt := s.halt) ((set_cell h.cell _).trans rfl) (Below.heap_setCell _ ⟨d, 4, none⟩ _ m h.lt.2.2.symm) h.room h.used h.deeds h.halt
    have HF := Lib.hid fin
    have hb : (s.halt == 0) = true := by simp [hq]
    generalize s.halt = ha at *
    subst hq
    clear h fin
    go_enter Try.func41, Try.ntmps41
    go_wp2
    go_ret
    exact ⟨rfl, HF.out, (Touch.refl _ _).setCell (.inl (by simp)) _, by simp⟩
  · rw [if_neg hq]
    have fin : ∀ k : Int, k = max (s.halt - 1) (-1) → DiskAt ((w.setCell ⟨d, 3, none⟩ (.int .i64 k)).setCell ⟨d, 2, none⟩ (.int .i64 (s.deeds + 1))) d m { s with halt := max (s.halt - 1) (-1), deeds := s.deeds + 1 } := fun k hk => by
      subst hk
      exact h.set (room := s.room) (down := s.down) ((set_cell (set_cell h.cell _) _).trans rfl) ((Below.heap_setCell _ ⟨d, 2, none⟩ _ m h.lt.2.2.symm).trans (Below.heap_setCell _ ⟨d, 3, none⟩ _ m h.lt.2.2.symm)) h.room h.used (by omega) (by omega)
    have HF := Lib.hid fin
    have hb : (s.halt == 0) = false := by simp [hq]
    have HQ := Lib.hid hq
    clear h fin hq
    go_enter Try.func41, Try.ntmps41
    go_wp2
    all_goals go_ret
    all_goals exact ⟨rfl, HF.out _ (by omega), ((Touch.refl _ _).setCell (.inl (by simp)) _).setCell (.inl (by simp)) _, by simp⟩
end Go.Proofs.Ytakefjdckacgpaa.Cod

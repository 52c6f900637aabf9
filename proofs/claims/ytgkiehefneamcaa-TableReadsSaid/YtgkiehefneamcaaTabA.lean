/- awake: the walk. -/
import Derived.Test.YtgkiehefneamcaaTabT
namespace Go.Proofs.Ytgkiehefneamcaa.Cod
open Go.RowKit
/-- a guarded load of a whole row -/
theorem wpList_load_row_g {P : Program} {ops : Array Oper} {rest : List Oper} {o : Oper} {a : Act} {w : World} {Q : Exit → Act → World → Prop} (hw : Region.wanted o (yielded ops a.tmps) = true) (ty : TypeId) (x : Operand) (ho : o.op = .load ty x)
    (g : Nat) (hx : a.eval x = .pointer (some ⟨g, 0, none⟩)) (t : TypeId) (cs : Array Value) (fr : Nat × Nat) (d : TypeDesc) (hg : w.heap[g]? = some (.cells cs t fr))
    (hu : P.underlying ty = some d) (hd : (match d with | .struct _ | .array _ _ => true | _ => false) = true) (hi : (P.info? ty).map (·.size) = some cs.size)
    (h : wpList P ops Q rest (a.put o.dst (.agg cs)) w) : wpList P ops Q (o :: rest) a w := by
  unfold wpList
  rw [if_pos hw]
  exact .inl (wp_load_row ty x ho g hx t cs fr d hg hu hd hi h)
def T3 : List Int := 1 :: 1 :: 1 :: List.replicate 61 0
theorem new_T3 : new [(0, 1), (1, 1), (2, 1)] = (T3, 0) := by kernel_rfl
theorem T3_pows : Pows T3 := by
  refine ⟨by simp [T3], fun x hx => ?_⟩
  simp only [T3, List.mem_cons, List.mem_replicate] at hx
  omega
theorem nc_size64 {T : List Int} (h : Pows T) : (nc T).size = 64 := by rw [nc_size]; exact h.1
theorem info64 {T : List Int} (h : Pows T) : (Try.prog.info? 45).map (·.size) = some (nc T).size := by rw [nc_size64 h]; kernel_rfl
theorem ints_block {w : World} {g : Nat} {l : List Int} {t : TypeId} (h : w.heap[g]? = some (.cells (nc l) t (0, 0))) : IntsAt w (some ⟨g, 0, none⟩) l := by
  intro i hi
  refine ⟨_, rfl, (Array.getElem?_eq_some_iff.1 h).1, ?_⟩
  rw [Addr.add_mid, Nat.zero_add, cell_of_row _ _ _ _ _ _ h]
  exact nc_get l i hi
set_option maxHeartbeats 1600000 in
set_option maxRecDepth 100000 in
theorem C_awake6 (w : World) : Calls Try.prog 19 #[] w fun e w' => e = .returned (.bool true) ∧ Below w.heap.size w w' := by
  have hN : ∀ A c v, Ents v A [(0, 1), (1, 1), (2, 1)] → Calls Try.prog 21 #[.slice A 3 c] v fun e w' => e = .returned (.tuple #[.agg (nc (new [(0, 1), (1, 1), (2, 1)]).1), .int .i64 (new [(0, 1), (1, 1), (2, 1)]).2]) ∧ Below v.heap.size v w' := fun A c v hv => C_new A c [(0, 1), (1, 1), (2, 1)] v hv (by decide)
  have hQ1 : ∀ A c v, IntsAt v A [2, 1, 0] → Calls Try.prog 23 #[.agg (nc T3), .slice A 3 c] v fun e w' => e = .returned (.bool (quo T3 [2, 1, 0])) ∧ Below v.heap.size v w' := fun A c v hv => C_quorum T3 T3_pows A c [2, 1, 0] v hv (by decide)
  have hQ2 : ∀ A c v, IntsAt v A [0, 1, 1] → Calls Try.prog 23 #[.agg (nc T3), .slice A 3 c] v fun e w' => e = .returned (.bool (quo T3 [0, 1, 1])) ∧ Below v.heap.size v w' := fun A c v hv => C_quorum T3 T3_pows A c [0, 1, 1] v hv (by decide)
  have hTo := fun v => C_total T3 T3_pows v
  have hE : ∀ v : World, Ents (v.alloc (.cells #[.int .i64 0, .int .i64 1, .int .i64 1, .int .i64 1, .int .i64 2, .int .i64 1] 81)) (some ⟨v.heap.size, 0, none⟩) [(0, 1), (1, 1), (2, 1)] := fun v => ents_block (l := [(0, 1), (1, 1), (2, 1)]) (heap_alloc_new v _)
  have hI1 : ∀ v : World, IntsAt (v.alloc (.cells #[.int .i64 2, .int .i64 1, .int .i64 0] 3)) (some ⟨v.heap.size, 0, none⟩) [2, 1, 0] := fun v => ints_block (l := [2, 1, 0]) (heap_alloc_new v _)
  have hI2 : ∀ v : World, IntsAt (v.alloc (.cells #[.int .i64 0, .int .i64 1, .int .i64 1] 3)) (some ⟨v.heap.size, 0, none⟩) [0, 1, 1] := fun v => ints_block (l := [0, 1, 1]) (heap_alloc_new v _)
  have e1 : quo T3 [2, 1, 0] = true := by kernel_rfl
  have e2 : quo T3 [0, 1, 1] = false := by kernel_rfl
  have e3 : isum T3 = 3 := by kernel_rfl
  simp only [new_T3] at hN
  simp only [e1] at hQ1
  simp only [e2] at hQ2
  simp only [e3] at hTo
  have hs := nc_size64 T3_pows
  have hi := info64 T3_pows
  have h1 := nc_one T3
  generalize nc T3 = C at hN hQ1 hQ2 hTo hs hi h1
  clear e1 e2 e3
  go_enter Try.func19, Try.ntmps19
  go_wp2_with (first
    | (go_at_call 21; ((with_reducible refine (hN _ _ _ (hE w)).mono ?_); rintro e w1 ⟨rfl, f1⟩; have b1 := ((Below.refl w.heap.size w).alloc (Nat.le_refl _) _).trans (f1.mono (by simp)); clear f1; have b2 := b1.alloc b1.size (.cells C 45); have r2 := heap_alloc_new w1 (.cells C 45)))
    | (refine wpList_store_new (by rfl) 45 (.tmp 1) (.tmp 9) (by rfl) w1.heap.size rfl C _ 45 (by rfl) (by rfl) hi (by rw [hs]; rfl) h1 ?_; obtain ⟨w2, hw2⟩ : ∃ w2, w2 = w1.alloc (.cells C 45) := ⟨_, rfl⟩; rw [← hw2] at b2 r2 ⊢; clear hw2 b1)
    | (refine wpList_load_row_g (by rfl) 45 (.tmp 1) (by rfl) w1.heap.size (by rfl) 45 C (0, 0) _ r2 Try.underlying45 rfl hi ?_)
    | (go_at_call 23; ((with_reducible refine (hQ1 _ _ _ (hI1 w2)).mono ?_); rintro e w3 ⟨rfl, f1⟩; have a3 := ((Below.refl w2.heap.size w2).alloc (Nat.le_refl _) _).trans (f1.mono (by simp)); clear f1; have b3 := b2.trans (a3.mono b2.size); have r3 := (a3.block _ (Array.getElem?_eq_some_iff.1 r2).1).trans r2; clear a3))
    | (refine wpList_load_row_g (by rfl) 45 (.tmp 1) (by rfl) w1.heap.size (by rfl) 45 C (0, 0) _ r3 Try.underlying45 rfl hi ?_)
    | (go_at_call 23; ((with_reducible refine (hQ2 _ _ _ (hI2 w3)).mono ?_); rintro e w4 ⟨rfl, f1⟩; have a4 := ((Below.refl w3.heap.size w3).alloc (Nat.le_refl _) _).trans (f1.mono (by simp)); clear f1; have b4 := b3.trans (a4.mono b3.size); have r4 := (a4.block _ (Array.getElem?_eq_some_iff.1 r3).1).trans r3; clear a4))
    | (refine wpList_load_row_g (by rfl) 45 (.tmp 1) (by rfl) w1.heap.size (by rfl) 45 C (0, 0) _ r4 Try.underlying45 rfl hi ?_)
    | (go_at_call 37; ((with_reducible refine (hTo _).mono ?_); rintro e w5 ⟨rfl, f1⟩; have b5 := b4.trans (f1.mono b4.size))))
  go_ret
  exact ⟨rfl, b5⟩

end Go.Proofs.Ytgkiehefneamcaa.Cod

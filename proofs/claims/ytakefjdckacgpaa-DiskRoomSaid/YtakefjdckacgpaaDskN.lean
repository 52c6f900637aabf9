/- disk: Names, by the shelf's contract on slices.Sorted(maps.Keys(m)). -/
import Derived.Test.YtakefjdckacgpaaDskP
import Derived.Test.YtakefjdckacgpaaRowS
import Derived.Test.YtakefjdckacgpaaIter
import Derived.Sort.KeysCollected
namespace Go.Proofs.Ytakefjdckacgpaa.Cod
open Go.RowKit Go.Maps Go.Sort Go.Shelf
theorem sortsN (m : Nat) : AnyZ.SortsIn Try.prog Try.sorted34_ren Fence.wide m :=
  ⟨fun blk off cap ss W hH hblk hsz => callsIn_wide.2 (AnyM.slices_Sort_string Try.sort48 blk off cap ss W hH hblk hsz),
   fun p cap W => callsIn_wide.2 (AnyM.slices_Sort_string_none Try.sort48 p cap W)⟩
theorem mapsKeys (mb : Option Nat) (W : World) : Calls Try.prog 35 #[.map mb] W fun e w' => e = .returned (.func (.func 49) #[] #[.pointer (some ⟨W.heap.size, 0, none⟩)]) ∧ w' = W.alloc (.cells #[.map mb] DMT) :=
  (callsIn_wide (n := 5)).1 (AnyZ.keys_in Try.keys35 Fence.wide 5 trivial rfl mb W)
set_option maxHeartbeats 1000000 in
theorem sortedKeys {H : Type} (b nn : Nat) (D0 : DataW H) (R : Value → Option (DataW H × List MemPlace)) (w : World) (hown : w.ownsMap Try.prog 9 R b nn D0) (hmax : Maps.size D0 ≤ maxLen) (hbytes : Maps.size D0 * 16 ≤ 140737488355328) :
    Calls Try.prog 34 #[.func (.func 49) #[] #[.pointer (some ⟨w.heap.size, 0, none⟩)]] (w.alloc (.cells #[.map (some b)] DMT)) fun e w' => ∃ (v : Value) (ss : List (List UInt8)), e = .returned v ∧ ss.Perm (strKeys D0) ∧
      w'.ownsRow (w.alloc (.cells #[.map (some b)] DMT)).heap.size 9 1 v ss.length ((ss.mergeSort (fun x y => decide (x ≤ y))).map encStr) ∧ (v = .slice none 0 0 ↔ ss = []) ∧ Below (w.alloc (.cells #[.map (some b)] DMT)).heap.size (w.alloc (.cells #[.map (some b)] DMT)) w' := by
  have hbl := hown.lt
  have hseq : SeqGives Fence.wide 2 Try.prog 49 #[.pointer (some ⟨w.heap.size, 0, none⟩)] encStr (fun ss => ss.Perm (strKeys D0)) (Maps.size D0) (w.alloc (.cells #[.map (some b)] DMT)) :=
    AnyZ.keys_gives (ρ := Try.keys35_ren) { Try.keys35 with } Fence.wide _ trivial rfl (by omega) w.heap.size b nn D0 _ (by simp) (by simp) (by
      obtain ⟨es, clock, hb, Ft, hs, hD⟩ := hown
      exact ⟨es, clock, (Below.heap_alloc _ _ b hbl).trans hb, Ft, hs, hD⟩)
  exact (callsIn_wide (n := 5)).1 (AnyZ.sorted_in Try.sorted34 Fence.wide 5 trivial trivial trivial trivial rfl (by omega) (sortsN _) (enters_of Try.func48 (by kernel_rfl) rfl) 49 #[.pointer (some ⟨w.heap.size, 0, none⟩)] trivial (enters_of Try.func49 (by kernel_rfl) rfl) _ _ hmax hbytes _ hseq)
/-! ## The disk's map, in the kit's word -/
theorem keyOf_txt (s : ByteArray) (hs : s.size ≤ maxLen) : keyOf Try.prog 9 (.string s) = some (.string s.data.toList) := by
  simp [keyOf, mapKey, hs]
theorem owns_of {w : World} {m : Nat} {L : List KV} (h : MapAt w m L) (hk : ∀ x ∈ L, x.1.size ≤ maxLen) (hn : L.length ≤ maxLen) :
    ∃ D0 : DataW Unit, w.ownsMap Try.prog 9 (fun _ => some (.nil, [])) m L.length D0 ∧ Maps.size D0 = L.length ∧ (strKeys D0).Perm (L.map fun x => x.1.data.toList) := by
  obtain ⟨es, c, hb, hl, hst⟩ := h
  have hsz : es.size = L.length := by
    have := congrArg List.length hl
    simpa using this
  have hkeys := keys_of hl
  have hrd : ∀ x ∈ es.toList, ∃ s : ByteArray, x.key = .string s ∧ s.size ≤ maxLen ∧ WideElems.rd Try.prog 9 (fun _ => some (DataW.nil (H := Unit), [])) x = some (.string s.data.toList, .nil) := by
    intro x hx
    have : x.key ∈ es.toList.map (·.key) := List.mem_map.2 ⟨x, hx, rfl⟩
    rw [hkeys] at this
    obtain ⟨y, hy, e⟩ := List.mem_map.1 this
    refine ⟨y.1, e.symm, hk y hy, ?_⟩
    unfold WideElems.rd
    rw [← e, keyOf_txt _ (hk y hy)]
    rfl
  refine ⟨_, ⟨es, c, hb, ⟨by omega, hst, fun x hx => ?_⟩, by omega, rfl⟩, ?_, ?_⟩
  · obtain ⟨s, _, _, e⟩ := hrd x hx
    exact ⟨_, e⟩
  · show List.length _ = _
    rw [(WideShapes.sorted_perm _).length_eq, List.length_map, Array.length_toList, hsz]
  · show (List.map _ _).Perm _
    refine ((WideShapes.sorted_perm _).map _).trans ?_
    rw [List.map_map]
    have e1 : es.toList.map ((fun p : Lit × DataW Unit => strOf p.1) ∘ WideElems.rg Try.prog 9 (fun _ => some (DataW.nil (H := Unit), []))) = L.map fun x => x.1.data.toList := by
      have hs2 : es.toList.map ((fun p : Lit × DataW Unit => strOf p.1) ∘ WideElems.rg Try.prog 9 (fun _ => some (DataW.nil (H := Unit), []))) = (es.toList.map (·.key)).map (fun v => match v with | .string s => s.data.toList | _ => []) := by
        rw [List.map_map]
        refine List.map_congr_left fun x hx => ?_
        obtain ⟨s, e1, _, e2⟩ := hrd x hx
        simp only [Function.comp, WideElems.rg_of e2, e1, strOf]
      rw [hs2, hkeys, List.map_map]
      rfl
    rw [e1]
/-- the names, as texts of bytes, sorted -/
def dnames (fs : List Fl) : List ByteArray := ((fs.map fun f => f.1.data.toList).mergeSort fun x y => decide (x ≤ y)).map fun l => ⟨l.toArray⟩
theorem dnames_length (fs : List Fl) : (dnames fs).length = fs.length := by simp [dnames]
structure NamesOk (fs : List Fl) : Prop where
  names : ∀ f ∈ fs, f.1.size ≤ maxLen
  few : fs.length ≤ 100000
set_option maxHeartbeats 4000000 in
set_option maxRecDepth 100000 in
theorem D_names {w : World} {d m : Nat} {s : Dst} (h : DiskAt w d m s) (hk : NamesOk s.files) : Calls Try.prog 17 #[ptr d] w fun e w' => ∃ B c', e = .returned (.slice B (dnames s.files).length c') ∧ RowsAt (fun n : ByteArray => [.string n]) 1 w' B (dnames s.files) ∧ Below w.heap.size w w' := by
  have c1 := cell_of_row _ _ 0 _ _ _ h.cell
  have hml := hk.few
  obtain ⟨D0, ho, hsz, hp⟩ := owns_of h.map (fun x hx => by
    obtain ⟨f, hf, rfl⟩ := List.mem_map.1 hx
    exact hk.names f hf) (by rw [List.length_map]; unfold maxLen; omega)
  rw [List.length_map] at hsz
  have hS := sortedKeys m _ D0 _ w ho (by unfold maxLen; omega) (by omega)
  have hp2 : (strKeys D0).Perm (s.files.map fun f => f.1.data.toList) := by
    rw [List.map_map] at hp
    exact hp
  have HP := Lib.hid hp2
  have HS := Lib.hid hS
  clear h ho hsz hp hp2 hS hml hk
  go_enter Try.func17, Try.ntmps17
  go_wp2_with fail
  go_at_call 35
  with_reducible refine (mapsKeys _ _).mono ?_
  rintro e w1 ⟨rfl, rfl⟩
  go_wp2_with fail
  go_at_call 34
  with_reducible refine HS.out.mono ?_
  rintro e w2 ⟨v, ss, rfl, hperm, hrow, hnil, hb⟩
  have hb1 : Below w.heap.size w w2 := ((Below.refl _ w).alloc (Nat.le_refl _) _).trans (hb.mono (by simp))
  have hlen : ss.length = (dnames s.files).length := by rw [dnames_length, (hperm.trans HP.out).length_eq, List.length_map]
  have e1 : (ss.mergeSort fun x y => decide (x ≤ y)) = (s.files.map fun f => f.1.data.toList).mergeSort fun x y => decide (x ≤ y) := mergeSort_of_perm (hperm.trans HP.out)
  have e2 : ((ss.mergeSort fun x y => decide (x ≤ y)).map encStr) = (dnames s.files).flatMap (fun n : ByteArray => [Value.string n]) := by
    rw [e1, dnames, List.flatMap_map]
    exact List.map_eq_flatMap
  rw [hlen, e2] at hrow
  obtain ⟨B, c', e3, _, _, hR⟩ := rows_of_own (f := fun n : ByteArray => [Value.string n]) (n := 1) (fun _ => rfl) hrow
  have HH := Lib.hid (And.intro hR hb1)
  clear hperm hrow hnil hb hb1 hlen e1 e2 hR
  subst e3
  go_wp2
  go_ret
  exact ⟨_, _, rfl, HH.out.1, HH.out.2⟩
end Go.Proofs.Ytakefjdckacgpaa.Cod

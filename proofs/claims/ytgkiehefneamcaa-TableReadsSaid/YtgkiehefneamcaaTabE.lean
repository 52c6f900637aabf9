/- Entries: rows of pairs of numbers; few, Own. -/
import Derived.Test.YtgkiehefneamcaaTabQ
namespace Go.Proofs.Ytgkiehefneamcaa.Cod
open Go.RowKit
/-- the cells of entries -/
def ec (l : List (Int × Int)) : List Value := l.flatMap fun p => [.int .i64 p.1, .int .i64 p.2]
theorem ec_len (l : List (Int × Int)) : (ec l).length = l.length * 2 := by
  induction l with
  | nil => rfl
  | cons p l ih => simp [ec, List.flatMap_cons] at ih ⊢; omega
theorem ec_cons (p : Int × Int) (l : List (Int × Int)) : ec (p :: l) = .int .i64 p.1 :: .int .i64 p.2 :: ec l := rfl
theorem ec_snoc (l : List (Int × Int)) (p : Int × Int) : ec (l ++ [p]) = ec l ++ [.int .i64 p.1, .int .i64 p.2] := by simp [ec, List.flatMap_append]
theorem ec_get : ∀ (l : List (Int × Int)) (i : Nat) (h : i < l.length), (ec l)[i * 2]? = some (.int .i64 l[i].1) ∧ (ec l)[i * 2 + 1]? = some (.int .i64 l[i].2)
  | [], i, h => absurd h (by simp)
  | p :: l, 0, _ => ⟨rfl, rfl⟩
  | p :: l, i + 1, h => by
    have := ec_get l i (by simpa using h)
    rw [ec_cons, show (i + 1) * 2 = i * 2 + 1 + 1 by omega]
    exact this
/-- entries in memory -/
def Ents (w : World) (A : Option Addr) (l : List (Int × Int)) : Prop :=
  ∀ i (h : i < l.length), ∃ ad, A = some ad ∧ ad.block < w.heap.size ∧ w.cell? (ad.add (i * 2)) = some (.int .i64 l[i].1) ∧ w.cell? ⟨(ad.add (i * 2)).block, (ad.add (i * 2)).off + 1, none⟩ = some (.int .i64 l[i].2)
theorem Ents.below {w w1 : World} {A : Option Addr} {l : List (Int × Int)} (h : Ents w A l) (hb : Below w.heap.size w w1) : Ents w1 A l := by
  intro i hi
  obtain ⟨ad, e, hl, h1, h2⟩ := h i hi
  exact ⟨ad, e, Nat.lt_of_lt_of_le hl hb.size, (hb.cell (by rw [addb]; exact hl)).trans h1, (hb.cell (p := ⟨(ad.add (i * 2)).block, (ad.add (i * 2)).off + 1, none⟩) (by rw [addb]; exact hl)).trans h2⟩
theorem Ents.take {w : World} {A : Option Addr} {l : List (Int × Int)} (h : Ents w A l) (n : Nat) : Ents w A (l.take n) := by
  intro i hi
  have hl : i < l.length := by rw [List.length_take] at hi; omega
  obtain ⟨ad, e, h0, h1, h2⟩ := h i hl
  rw [List.getElem_take]
  exact ⟨ad, e, h0, h1, h2⟩
theorem ents_nil (w : World) (A : Option Addr) : Ents w A [] := fun i hi => absurd hi (by simp)
theorem ents_of_own {w : World} {B t : Nat} {v : Value} {l : List (Int × Int)} (h : w.ownsRow B t 2 v l.length (ec l)) : ∃ A c, v = .slice A l.length c ∧ Ents w A l := by
  rcases Nat.eq_zero_or_pos l.length with h0 | h0
  · rcases h.2 with ⟨rfl, _⟩ | ⟨g, cap, cur, rfl, _⟩
    · exact ⟨none, 0, by rw [h0], fun i hi => absurd hi (by omega)⟩
    · exact ⟨_, cap, rfl, fun i hi => absurd hi (by omega)⟩
  · rcases h.2 with ⟨_, h1⟩ | ⟨g, cap, cur, rfl, hb, hg, _⟩
    · omega
    · have hlt : g < w.heap.size := (Array.getElem?_eq_some_iff.1 hg).1
      refine ⟨_, cap, rfl, fun i hi => ⟨⟨g, 0, none⟩, rfl, hlt, ?_⟩⟩
      obtain ⟨e1, e2⟩ := ec_get l i hi
      have h1 := h.cells (g := g) rfl _ _ e1
      have h2 := h.cells (g := g) rfl _ _ e2
      refine ⟨h1, ?_⟩
      rw [Addr.add_mid] at h2 ⊢
      simpa [Nat.add_assoc] using h2
/-- entries whose cells are of one block, at its head -/
theorem ents_block {w : World} {g : Nat} {l : List (Int × Int)} {t : TypeId} (h : w.heap[g]? = some (.cells (ec l).toArray t (0, 0))) : Ents w (some ⟨g, 0, none⟩) l := by
  intro i hi
  obtain ⟨e1, e2⟩ := ec_get l i hi
  refine ⟨_, rfl, (Array.getElem?_eq_some_iff.1 h).1, ?_, ?_⟩
  · rw [Addr.add_mid, Nat.zero_add, cell_of_row _ _ _ _ _ _ h]; simpa using e1
  · rw [Addr.add_mid, Nat.zero_add, cell_of_row _ _ _ _ _ _ h]; simpa using e2
set_option maxHeartbeats 800000 in
set_option maxRecDepth 100000 in
theorem C_few (A : Option Addr) (c : Nat) (l : List (Int × Int)) (w : World) (hc : l.length ≤ c) (hm : c ≤ maxLen) :
    Calls Try.prog 38 #[.slice A l.length c] w fun e w' => e = .returned (.slice A (l.take 66).length c) ∧ w' = w := by
  unfold maxLen at hm
  by_cases h : 66 < l.length
  · have hl : (l.take 66).length = 66 := by rw [List.length_take]; omega
    rw [hl]
    have h1 : (66 : Int) < (l.length : Int) := by omega
    have h2 : (66 : Int) ≤ (c : Int) := by omega
    go_enter Try.func38, Try.ntmps38
    go_wp2
    go_ret
    exact ⟨rfl, rfl⟩
  · have hl : (l.take 66).length = l.length := by rw [List.length_take]; omega
    rw [hl]
    have h1 : ¬ (66 : Int) < (l.length : Int) := by omega
    go_enter Try.func38, Try.ntmps38
    go_wp2
    go_ret
    exact ⟨rfl, rfl⟩
def OwnRel (w : World) (l : List (Int × Int)) (v i : Value) (wr : World) : Prop := ∃ k : Nat, k ≤ l.length ∧ i = .int .i64 k ∧ wr.ownsRow w.heap.size 81 2 v (l.take k).length (ec (l.take k)) ∧ Below w.heap.size w wr
theorem infoE : (Try.prog.info? 81).map (fun i => (i.zero, i.size, i.bytes)) = some (some (.agg #[.int .i64 0, .int .i64 0]), 2, 16) := by kernel_rfl
set_option maxHeartbeats 1600000 in
set_option maxRecDepth 100000 in
theorem C_own (A : Option Addr) (c : Nat) (l : List (Int × Int)) (w : World) (h : Ents w A l) (hm : l.length ≤ 1000) :
    Calls Try.prog 22 #[.slice A l.length c] w fun e w' => ∃ A' c', e = .returned (.slice A' l.length c') ∧ Ents w' A' l ∧ Below w.heap.size w w' := by
  obtain ⟨i0, hi, hz0, hz1, hz2⟩ := info_parts infoE
  go_enter Try.func22, Try.ntmps22
  go_wp2
  go_loopw [3, 8] (fun v i wr => OwnRel w l v i wr) (fun _ i _ => l.length - (intOf i).toNat)
  case atStart => exact ⟨0, by omega, rfl, World.ownsRow_nil _ _ _ _, Below.refl _ _⟩
  case round =>
    obtain ⟨k, hk, rfl, hown, hb⟩ := hrel
    by_cases hlt : k < l.length
    · obtain ⟨ad, rfl, hadl, h1, h2⟩ := (h.below hb) k hlt
      have hlti : (k : Int) < (l.length : Int) := by omega
      have htk : l.take (k + 1) = l.take k ++ [l[k]] := by rw [List.take_add_one, List.getElem?_eq_getElem hlt]; rfl
      have hlen : (l.take k).length = k := by rw [List.length_take]; omega
      generalize l[k] = p at h1 h2 htk
      obtain ⟨p, n⟩ := p
      simp only at h1 h2
      have HTK := Lib.hid htk
      clear htk
      go_wp2_with (at_builtin; refine wpList_append_own _ rfl _ _ 49 rfl w.heap.size 81 i0 (.agg #[.int .i64 0, .int .i64 0]) 2 16 Try.underlying49 hi hz0 hz1 hz2 rfl (by decide) _ _ _ rfl ((hown.alloc _).alloc _) ⟨wr.heap.size + 1, 0, none⟩ 1 1 [.int .i64 p, .int .i64 n] rfl ?c1 ?c2 ?c3 ?c4 ?c5 ?c6 ?_)
      case c1 => rfl
      case c2 =>
        intro j u hu
        rw [Addr.add_mid, Nat.zero_add, cell_of_row _ _ j _ _ _ (heap_alloc2_new wr _ _)]
        simpa using hu
      case c3 =>
        intro u hu
        simp only [List.mem_cons, List.not_mem_nil, or_false] at hu
        rcases hu with rfl | rfl <;> rfl
      case c4 => unfold maxLen; omega
      case c5 => omega
      case c6 => have := hb.size; simp; omega
      intro v' w1 hown' hgrow _
      go_wp2
      go_roundw
      case rel =>
        refine ⟨k + 1, by omega, by go_num, ?_, ?_⟩
        · rw [HTK.out, ec_snoc, List.length_append, hlen]; exact hown'
        · exact ((hb.alloc hb.size _).alloc (by have := hb.size; simp; omega) _).grown hgrow (by have := hb.size; simp; omega) (fun k hk => (hown.lt k hk).1)
      case measure => simp [intOf]; omega
    · obtain rfl : k = l.length := by omega
      rw [List.take_length] at hown
      obtain ⟨A', c', rfl, hE⟩ := ents_of_own hown
      go_wp2
      go_ret
      exact ⟨A', c', rfl, hE, hb⟩
end Go.Proofs.Ytgkiehefneamcaa.Cod

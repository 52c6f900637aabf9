/- Table.Bytes: the walk. -/
import Derived.Test.YtgkiehefneamcaaTabI
import Derived.Test.YtgkiehefneamcaaInOps
import Derived.Test.YtgkiehefneamcaaRef
import Derived.Deep.RegionHeld3
import Derived.Shelf.Strings.MapGrows
namespace Go.Proofs.Ytgkiehefneamcaa.Cod
open Go.RowKit
theorem Bd.alloc {B b : Nat} {l : List UInt8} {w : World} (h : Bd 95 B b l w) (o : Obj) : Bd 95 B b l (w.alloc o) := Lib.IsBuilderF.alloc h o
theorem Bd.below {B b : Nat} {l : List UInt8} {w w' : World} (h : Bd 95 B b l w) (f : Below w.heap.size w w') : Bd 95 B b l w' := Lib.IsBuilderF.below h f
theorem Bd.drew {B b : Nat} {l : List UInt8} {w : World} (h : Bd 95 B b l w) : Bd 95 B b l w.drew := h
theorem two_cells {w : World} {b : Nat} {u v : Value} {t : TypeId} (h : w.heap[b]? = some (.cells #[u, v] t (0, 0))) : w.cell? ⟨b, 0, none⟩ = some u ∧ w.cell? ⟨b, 1, none⟩ = some v :=
  ⟨by rw [Lib.cell_of_heap h]; rfl, by rw [Lib.cell_of_heap h]; rfl⟩
theorem numB_ne (x : Nat) : numB x ≠ [] := by simp [numB]
def pairB (p : Int × Int) : List UInt8 := numB p.1.toNat ++ numB p.2.toNat
def tb (l : List (Int × Int)) : List UInt8 := numB l.length ++ l.flatMap pairB
theorem flat_len (l : List (Int × Int)) (h : ∀ p ∈ l, p.1 ≤ 9223372036854775807 ∧ p.2 ≤ 9223372036854775807) : (l.flatMap pairB).length ≤ 18 * l.length := by
  induction l with
  | nil => simp
  | cons p l ih =>
    have h1 := h p (by simp)
    have h2 := ih fun q hq => h q (by simp [hq])
    have h3 := numB_len_le (x := p.1.toNat) (by omega)
    have h4 := numB_len_le (x := p.2.toNat) (by omega)
    simp only [List.flatMap_cons, List.length_append, List.length_cons, pairB]
    omega
theorem entsN_in {T : List Int} (hT : Pows T) (k : Nat) : ∀ p ∈ entsN T k, 0 ≤ p.1 ∧ p.1 < k ∧ 0 < p.2 ∧ p.2 ≤ 1099511627776 := by
  induction k with
  | zero => intro p hp; simp [entsN] at hp
  | succ k ih =>
    intro p hp
    rw [entsN_succ] at hp
    rcases List.mem_append.1 hp with h | h
    · have := ih p h; omega
    · by_cases hk : 0 < T.getD k 0
      · rw [if_pos hk] at h
        simp only [List.mem_singleton] at h
        subst h
        have : T.getD k 0 ≤ 1099511627776 := by
          by_cases hl : k < T.length
          · have h2 := hT.2 T[k] (List.getElem_mem hl)
            have hg : T.getD k 0 = T[k] := by simp [List.getD, hl]
            omega
          · rw [List.getD_eq_getElem?_getD, List.getElem?_eq_none (by omega)]; simp
        simp only
        omega
      · rw [if_neg hk] at h; cases h
theorem own_fr {B0 B b n : Nat} {v : Value} {xs : List Value} {w w' : World} (h : w.ownsRow B0 81 2 v n xs) (f : Fr B b w w') (hb : b < B0) : w'.ownsRow B0 81 2 v n xs := by
  refine ⟨h.1, ?_⟩
  rcases h.2 with hn | ⟨g, cap, cur, rfl, hg, hgg, rest⟩
  · exact .inl hn
  · exact .inr ⟨g, cap, cur, rfl, hg, f.kept hgg (by omega) (by decide), rest⟩
set_option maxHeartbeats 1600000 in
set_option maxRecDepth 100000 in
theorem C_tbytes (T : List Int) (hT : Pows T) (w : World) :
    Calls Try.prog 32 #[.agg (nc T)] w fun e w' => e = .returned (.string (S (tb (ents T)))) ∧ Below w.heap.size w w' := by
  have hE := fun v => C_entries2 T hT v
  have hi := info64 hT
  have hln : (ents T).length ≤ 64 := entsN_len T 64
  have hin : ∀ p ∈ ents T, 0 ≤ p.1 ∧ p.1 < 64 ∧ 0 < p.2 ∧ p.2 ≤ 1099511627776 := entsN_in hT 64
  generalize nc T = C at hE hi
  generalize ents T = x at hE hln hin
  have hq : ((w.alloc (.cells C 45)).alloc (.cells #[.pointer none, .slice none 0 0] 95)).heap[w.heap.size]? = some (.cells C 45 (0, 0)) := heap_alloc2_old _ _ _
  have hD := Bd.new (w.alloc (.cells C 45))
  rw [show (w.alloc (.cells C 45)).heap.size = w.heap.size + 1 by simp] at hD
  have g0 := ((Below.refl w.heap.size w).alloc (Nat.le_refl _) (.cells C 45)).alloc (by simp) (.cells #[.pointer none, .slice none 0 0] 95)
  have hfl := fun k => flat_len (x.take k) fun p hp => by have := hin p (List.mem_of_mem_take hp); omega
  have hn9 := numB_len_le (x := x.length) (by omega)
  have HFL := Lib.hid hfl
  have HIN := Lib.hid hin
  clear hfl hT hin
  obtain ⟨N0, hN0⟩ : ∃ N0, numB x.length = N0 := ⟨_, rfl⟩
  have hne : N0 ≠ [] := by rw [← hN0]; exact numB_ne _
  go_enter Try.func32, Try.ntmps32
  go_wp2_with (first
    | (refine wpList_load_row (by rfl) 45 (.tmp 1) (by rfl) w.heap.size (by rfl) 45 C (0, 0) _ hq Try.underlying45 rfl hi ?_)
    | (go_at_call 47; ((with_reducible refine (hE _).mono ?_); rintro e w1 ⟨Y, cY, rfl, oY, _, f1⟩; have g1 := g0.trans (f1.mono g0.size); have hD1 := hD.below f1; clear f1 hq hD))
    | (go_at_call 48; ((with_reducible refine (C_onum (x.length : Int) (by omega) (by omega) hD1 (by simp)).mono ?_); rintro e w2 ⟨rfl, hD2, f2⟩; have g2 := g1.trans (f2.1.mono (by have := hD1.lt; omega)); have hD2' := hD2)))
  rw [List.nil_append, Int.toNat_natCast, hN0] at hD2
  have lt0 := hD2.lt
  have oY2 := own_fr oY f2 (by simp)
  rw [show ((w.alloc (.cells C 45)).alloc (.cells #[.pointer none, .slice none 0 0] 95)).heap.size = w.heap.size + 2 by simp] at oY2
  have hn0 : N0.length ≤ 9 := by rw [← hN0]; exact hn9
  go_loopw [14] (fun i wr => ∃ k : Nat, k ≤ x.length ∧ i = .int .i64 k ∧ Bd 95 (w.heap.size + 1) (w.heap.size + 1) (N0 ++ (x.take k).flatMap pairB) wr ∧ Below w.heap.size w wr ∧ wr.ownsRow (w.heap.size + 2) 81 2 (.slice Y x.length cY) x.length (ec x)) (fun i _ => x.length - (intOf i).toNat)
  case atStart => exact ⟨0, by omega, rfl, by simpa using hD2, g2, oY2⟩
  case round =>
    obtain ⟨k, hk, rfl, hD, hb, hO⟩ := hrel
    by_cases hlt : k < x.length
    · obtain ⟨Y', cY', eY', hY⟩ := ents_of_own hO
      injection eY' with eY1 _ eY2
      subst eY1 eY2
      obtain ⟨ay, rfl, hayl, y1, y2⟩ := hY k hlt
      have hlti : (k : Int) < (x.length : Int) := by omega
      have htk : x.take (k + 1) = x.take k ++ [x[k]] := by rw [List.take_add_one, List.getElem?_eq_getElem hlt]; rfl
      have hpin := HIN.out _ (List.getElem_mem hlt)
      generalize x[k] = p at y1 y2 htk hpin
      obtain ⟨p, n⟩ := p
      simp only at y1 y2 hpin
      have hfl := HFL.out k
      rw [List.length_take] at hfl
      have hll : (N0 ++ (x.take k).flatMap pairB).length ≤ 2000 := by rw [List.length_append]; omega
      have hcat : N0 ++ (x.take (k + 1)).flatMap pairB = ((N0 ++ (x.take k).flatMap pairB) ++ numB p.toNat) ++ numB n.toNat := by rw [htk]; simp [pairB]
      have HCAT := Lib.hid hcat
      clear hcat htk hfl
      generalize N0 ++ (x.take k).flatMap pairB = D at hD hll HCAT
      have hDa := (hD.alloc (.cells #[.int .i64 p, .int .i64 n] 81)).drew
      have k4 := heap_alloc_new wr (.cells #[.int .i64 p, .int .i64 n] 81)
      have ltD := hD.lt
      have s4 : (wr.alloc (.cells #[.int .i64 p, .int .i64 n] 81)).drew.cell? ⟨wr.heap.size, 0, none⟩ = some (.int .i64 p) ∧ (wr.alloc (.cells #[.int .i64 p, .int .i64 n] 81)).drew.cell? ⟨wr.heap.size, 1, none⟩ = some (.int .i64 n) := two_cells (t := 81) k4
      have h9 := numB_len_le (x := p.toNat) (by omega)
      have hba := (hb.alloc hb.size (.cells #[.int .i64 p, .int .i64 n] 81)).drew
      have hOa : (wr.alloc (.cells #[.int .i64 p, .int .i64 n] 81)).drew.ownsRow (w.heap.size + 2) 81 2 (.slice (some ay) x.length cY) x.length (ec x) := hO.alloc _
      go_wp2_with (fail)
      go_region_held (fun W' => W'.cell? ⟨wr.heap.size, 0, none⟩ = some (.int .i64 p) ∧ W'.cell? ⟨wr.heap.size, 1, none⟩ = some (.int .i64 n)) (first | exact s7 | exact s6 | exact s4) (first
        | (go_at_call 48; ((with_reducible refine (C_onum p (by omega) (by omega) hDa (by omega)).mono ?_); rintro e w6 ⟨rfl, h6, g6⟩; have k6 := g6.kept k4 (by omega) (by decide); have s6 := two_cells k6))
        | (go_at_call 48; ((with_reducible refine (C_onum n (by omega) (by omega) h6 (by rw [List.length_append]; omega)).mono ?_); rintro e w7 ⟨rfl, h7, g7⟩; have s7 := two_cells (g7.kept k6 (by omega) (by decide)))))
      all_goals (go_wp2; go_roundw)
      case rel => exact ⟨k + 1, by omega, by go_num, by rw [HCAT.out]; exact h7, hba.trans ((g6.1.trans g7.1).mono (by omega)), own_fr (own_fr hOa g6 (by omega)) g7 (by omega)⟩
      case measure => simp [intOf]; omega
    · obtain rfl : k = x.length := by omega
      rw [List.take_length] at hD
      go_wp2_with (first
        | (go_at_call 49; with_reducible refine (C_obytes hD (by simp [hne])).mono ?_; rintro e w8 ⟨rfl, h8, g8⟩))
      go_ret
      exact ⟨ret_str (by unfold tb; rw [hN0]), hb.trans (g8.1.mono (by omega))⟩
end Go.Proofs.Ytgkiehefneamcaa.Cod

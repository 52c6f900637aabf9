/- Is: the walk. -/
import Derived.Test.YtgkiehefneamcaaTabI
namespace Go.Proofs.Ytgkiehefneamcaa.Cod
open Go.RowKit
set_option maxHeartbeats 1600000 in
set_option maxRecDepth 100000 in
theorem C_is (T : List Int) (hT : Pows T) (A : Option Addr) (c : Nat) (x : List (Int × Int)) (hx : ents T = x) (hsum : isum T = tsum x) (hf : Fair x) (w : World) (h : Ents w A x) :
    Calls Try.prog 31 #[.agg (nc T), .slice A x.length c] w fun e w' => e = .returned (.bool true) ∧ Below w.heap.size w w' := by
  have hE := fun v => C_entries T hT v
  have hTo := fun v => C_total T hT v
  have hRT := fun v hv => R_total A c x v hv hf
  have hs := nc_size64 hT
  have hi := info64 hT
  have hln : x.length ≤ 64 := by rw [← hx]; exact entsN_len T 64
  simp only [hx] at hE
  simp only [hsum] at hTo
  generalize nc T = C at hE hTo hs hi
  have hq : (w.alloc (.cells C 45)).heap[w.heap.size]? = some (.cells C 45 (0, 0)) := heap_alloc_new _ _
  have g0 := (Below.refl w.heap.size w).alloc (Nat.le_refl _) (.cells C 45)
  clear hx hsum hf hT
  go_enter Try.func31, Try.ntmps31
  go_wp2_with (first
    | (refine wpList_load_row (by rfl) 45 (.tmp 2) (by rfl) w.heap.size (by rfl) 45 C (0, 0) _ hq Try.underlying45 rfl hi ?_)
    | (go_at_call 47; ((with_reducible refine (hE _).mono ?_); rintro e w1 ⟨Y, cY, rfl, eY, f1⟩; have g1 := g0.trans (f1.mono g0.size); have q1 := (f1.block _ (Array.getElem?_eq_some_iff.1 hq).1).trans hq; clear f1))
    | (refine wpList_load_row_g (by rfl) 45 (.tmp 2) (by rfl) w.heap.size (by rfl) 45 C (0, 0) _ q1 Try.underlying45 rfl hi ?_)
    | (go_at_call 37; ((with_reducible refine (hTo _).mono ?_); rintro e w2 ⟨rfl, f2⟩; have g2 := g1.trans (f2.mono g1.size); have eY2 := eY.below f2; clear q1))
    | (go_at_call 41; ((with_reducible refine (hRT _ (h.below g2)).mono ?_); rintro e w3 ⟨rfl, f3⟩; have g3 := g2.trans (f3.mono g2.size); have eY3 := eY2.below f3; clear eY eY2)))
  go_loopw [24] (fun i wr => ∃ k : Nat, k ≤ x.length ∧ i = .int .i64 k ∧ Below w.heap.size w wr ∧ Ents wr Y x) (fun i _ => x.length - (intOf i).toNat)
  case atStart => exact ⟨0, by omega, rfl, g3, eY3⟩
  case round =>
    obtain ⟨k, hk, rfl, hb, hY⟩ := hrel
    by_cases hlt : k < x.length
    · obtain ⟨ad, rfl, hadl, h1, h2⟩ := (h.below hb) k hlt
      obtain ⟨ay, rfl, hayl, y1, y2⟩ := hY k hlt
      have hlti : (k : Int) < (x.length : Int) := by omega
      generalize x[k] = p at h1 h2 y1 y2
      obtain ⟨p, n⟩ := p
      simp only at h1 h2 y1 y2
      have y1' : (wr.alloc (.cells #[.int .i64 p, .int .i64 n] 56)).cell? (ay.add (k * 2)) = some (.int .i64 p) := (((Below.refl _ _).alloc (Nat.le_refl _) _).cell (p := ay.add (k * 2)) (by rw [addb]; exact hayl)).trans y1
      have y2' : (wr.alloc (.cells #[.int .i64 p, .int .i64 n] 56)).cell? ⟨(ay.add (k * 2)).block, (ay.add (k * 2)).off + 1, none⟩ = some (.int .i64 n) := (((Below.refl _ _).alloc (Nat.le_refl _) _).cell (p := ⟨(ay.add (k * 2)).block, (ay.add (k * 2)).off + 1, none⟩) (by rw [addb]; exact hayl)).trans y2
      go_wp2_with (fail)
      go_quiet (fail)
      go_wp2
      go_roundw
      case rel => exact ⟨k + 1, by omega, by go_num, below_drewN (hb.alloc hb.size _) _, hY.below (below_drewN ((Below.refl _ _).alloc (Nat.le_refl _) _) _)⟩
      case measure => simp [intOf]; omega
    · obtain rfl : k = x.length := by omega
      go_wp2
      go_ret
      exact ⟨rfl, hb⟩
end Go.Proofs.Ytgkiehefneamcaa.Cod

/- header.Header.Bytes. Contract by what it means. -/
import Derived.Test.YtdpkodhfelnedaaDoorHdr
import Derived.Test.YtdpkodhfelnedaaDoorWalkDigestIs
import Derived.Test.YtdpkodhfelnedaaDoorFix4
import Derived.Deep.CutRange
namespace Go.Proofs.YtdpkodhfelnedaaDoor.Cod
open Go.RowKit
theorem calls_some {P : Program} {f : FuncId} {args : Array Value} {w : World} {R : Ending → World → Prop} (h : Calls P f args w R) : ∃ e w', R e w' := by
  obtain ⟨e, w', _, h, _⟩ := h []
  exact ⟨e, w', h⟩
/-- the bytes ahead of the names -/
def Hdr.l (h : Hdr) (i : Nat) : List UInt8 := match i with
  | 2 => numB h.height.toNat
  | 5 => numB h.height.toNat ++ numB h.miner.toNat
  | 8 => numB h.height.toNat ++ numB h.miner.toNat ++ (numB h.ticket.size ++ bl h.ticket)
  | 11 => numB h.height.toNat ++ numB h.miner.toNat ++ (numB h.ticket.size ++ bl h.ticket) ++ numB h.wins.toNat
  | 15 => numB h.height.toNat ++ numB h.miner.toNat ++ (numB h.ticket.size ++ bl h.ticket) ++ numB h.wins.toNat ++ numB h.power
  | _ => numB h.height.toNat ++ numB h.miner.toNat ++ (numB h.ticket.size ++ bl h.ticket) ++ numB h.wins.toNat ++ numB h.power ++ numB h.parents.length
def Hdr.bytes (h : Hdr) : List UInt8 := h.l 19 ++ h.parents.flatten ++ numB h.salt.toNat
def SH (h : Hdr) (B b i : Nat) (W W' : World) (u : Value) : Prop := Below B W W' ∧ u = .pointer (some ⟨b, 0, none⟩) ∧ ((∃ W2, Below B W W2 ∧ Bd 52 B b (h.l i) W2) → Bd 52 B b (h.l i) W')
theorem sh_tot (h : Hdr) (B b i : Nat) (W : World) : ∃ W' u, SH h B b i W W' u := by
  by_cases k : ∃ W2, Below B W W2 ∧ Bd 52 B b (h.l i) W2
  · obtain ⟨W2, h1, h2⟩ := k
    exact ⟨W2, _, h1, rfl, fun _ => h2⟩
  · exact ⟨W, _, Below.refl _ _, rfl, fun k' => absurd k' k⟩
def HbRel (h : Hdr) (B b : Nat) (w : World) (i : Value) (wr : World) : Prop :=
  ∃ k : Nat, k ≤ h.parents.length ∧ i = .int .i64 k ∧ Bd 52 B b (h.l 19 ++ (h.parents.take k).flatten) wr ∧ Below B w wr
theorem flat_take (l : List (List UInt8)) (k : Nat) (h : k < l.length) : (l.take (k + 1)).flatten = (l.take k).flatten ++ l[k] := by
  rw [List.take_add_one, List.getElem?_eq_getElem h, List.flatten_append]
  simp
theorem ids_flat {w : World} {A : Option Addr} {l : List (List UInt8)} (h : IdsAt w A l) : ∀ k, k ≤ l.length → ((l.take k).flatten).length = 32 * k
  | 0, _ => by simp
  | k + 1, hk => by
    have ih := ids_flat h k (by omega)
    rw [flat_take l k (by omega), List.length_append, ih, (h k (by omega)).1]
    omega
set_option maxHeartbeats 2000000 in
set_option maxRecDepth 100000 in
theorem C_hbytes (h : Hdr) (A : Option Addr) (c : Nat) (w : World) (hI : IdsAt w A h.parents) (hlen : h.parents.length ≤ 1000000) (hpw : h.power < 9223372036854775808) (ht : h.ticket.size ≤ 10000000000000)
    (b1 : -9223372036854775808 ≤ h.height ∧ h.height ≤ 9223372036854775807) (b2 : -9223372036854775808 ≤ h.miner ∧ h.miner ≤ 9223372036854775807) (b3 : -9223372036854775808 ≤ h.wins ∧ h.wins ≤ 9223372036854775807) (b4 : -9223372036854775808 ≤ h.salt ∧ h.salt ≤ 9223372036854775807) :
    Calls Tryd.prog 9 #[h.val A c] w fun e w' => e = .returned (.string (S h.bytes)) ∧ Below w.heap.size w w' := by
  have n1 := numB_len_le (x := h.height.toNat) (by omega)
  have n2 := numB_len_le (x := h.miner.toNat) (by omega)
  have n3 := numB_len_le (x := h.ticket.size) (by omega)
  have n4 := numB_len_le (x := h.wins.toNat) (by omega)
  have n5 := numB_len_le (x := h.power) (by omega)
  have n6 := numB_len_le (x := h.parents.length) (by omega)
  have nt := bl_len h.ticket
  have ll : ∀ i, (h.l i).length ≤ 45 + h.ticket.size + 9 := by
    intro i
    unfold Hdr.l
    split <;> (try simp only [List.length_append]) <;> omega
  have HI := Lib.hid hI
  have LL := Lib.hid ll
  have hnew := Bd.new (w.alloc (.cells #[.int .i64 h.height, .int .i64 h.miner, .string h.ticket, .int .i64 h.wins, .int .u64 (h.power : Int), .slice A h.parents.length c, .int .i64 h.salt] 31))
  rw [show (w.alloc (.cells #[.int .i64 h.height, .int .i64 h.miner, .string h.ticket, .int .i64 h.wins, .int .u64 (h.power : Int), .slice A h.parents.length c, .int .i64 h.salt] 31)).heap.size = w.heap.size + 1 by simp] at hnew
  have hw64 : IntKind.i64.wrap (h.power : Int) = (h.power : Int) := IntWalk.i64_in _ (by omega)
  clear hI ll n1 n2 n3 n4 n5 n6 nt
  unfold Hdr.val
  go_enter Tryd.func9, Tryd.ntmps9
  go_upto_region 2 with (fail)
  obtain ⟨cs, ecs⟩ : ∃ cs : Array Value, #[.int .i64 h.height, .int .i64 h.miner, .string h.ticket, .int .i64 h.wins, .int .u64 (h.power : Int), .slice A h.parents.length c, .int .i64 h.salt] = cs := ⟨_, rfl⟩
  have k0 : cs[0]? = some (.int .i64 h.height) := by rw [← ecs]; rfl
  have k1 : cs[1]? = some (.int .i64 h.miner) := by rw [← ecs]; rfl
  have k2 : cs[2]? = some (.string h.ticket) := by rw [← ecs]; rfl
  have k3 : cs[3]? = some (.int .i64 h.wins) := by rw [← ecs]; rfl
  have k4 : cs[4]? = some (.int .u64 (h.power : Int)) := by rw [← ecs]; rfl
  have k5 : cs[5]? = some (.slice A h.parents.length c) := by rw [← ecs]; rfl
  have k6 : cs[6]? = some (.int .i64 h.salt) := by rw [← ecs]; rfl
  rw [ecs] at hnew ⊢
  have hrow : ((w.alloc (.cells cs 31)).alloc (.cells #[.pointer none, .slice none 0 0] 52)).heap[w.heap.size]? = some (.cells cs 31 (0, 0)) := heap_alloc2_old _ _ _
  have hbz : Below w.heap.size w ((w.alloc (.cells cs 31)).alloc (.cells #[.pointer none, .slice none 0 0] 52)) := ((Below.refl _ _).alloc (Nat.le_refl _) _).alloc (by simp) _
  obtain ⟨wz, ewz⟩ : ∃ wz, (w.alloc (.cells cs 31)).alloc (.cells #[.pointer none, .slice none 0 0] 52) = wz := ⟨_, rfl⟩
  rw [ewz] at hnew hrow hbz ⊢
  obtain ⟨bx, ebx⟩ : ∃ bx, w.heap.size = bx := ⟨_, rfl⟩
  obtain ⟨B, eB⟩ : ∃ B, w.heap.size + 1 = B := ⟨_, rfl⟩
  rw [eB] at hnew
  rw [ebx] at hrow
  have hbB : bx < B := by omega
  have hwB : w.heap.size ≤ B := by omega
  rw [eB, ebx]
  have hcell : ∀ W, Below B wz W → ∀ i v, cs[i]? = some v → W.cell? ⟨bx, i, none⟩ = some v := fun W hW i v hv => (hW.cell (p := ⟨bx, i, none⟩) hbB).trans ((cell_of_row _ _ _ _ _ _ hrow).trans hv)
  have HC := Lib.hid hcell
  have HB0 := Lib.hid hnew
  have HBZ := Lib.hid hbz
  clear ecs ewz ebx eB hrow hnew hbz hcell
  refine region_fix4 [[2, 5, 8, 11, 15, 19]] [2, 5, 8, 11, 15, 19] rfl (SH h B B) (by kernel_rfl) (by kernel_rfl) (sh_tot h B B) fun E hE g g0 hC => ?_
  obtain rfl := List.mem_singleton.1 hE
  clear hE
  have w0 : Below B wz (g 0).1 := by rw [g0]; exact (Below.refl _ _).drew
  have D0 : Bd 52 B B [] (g 0).1 := by rw [g0]; exact HB0.out
  have w1 := w0.trans (hC 0 (by decide)).1
  have q0 : (g 1).2 = .pointer (some ⟨B, 0, none⟩) := (hC 0 (by decide)).2.1
  have D1 : Bd 52 B B (h.l 2) (g 1).1 := (hC 0 (by decide)).2.2 (by
    obtain ⟨_, W2, _, hd, hf⟩ := calls_some (C_onum h.height b1.2 b1.1 D0 (by simp))
    exact ⟨W2, hf.1, hd⟩)
  have w2 := w1.trans (hC 1 (by decide)).1
  have q1 : (g 2).2 = .pointer (some ⟨B, 0, none⟩) := (hC 1 (by decide)).2.1
  have D2 : Bd 52 B B (h.l 5) (g 2).1 := (hC 1 (by decide)).2.2 (by
    obtain ⟨_, W2, _, hd, hf⟩ := calls_some (C_onum h.miner b2.2 b2.1 D1 (by have := LL.out 2; omega))
    exact ⟨W2, hf.1, hd⟩)
  have w3 := w2.trans (hC 2 (by decide)).1
  have q2 : (g 3).2 = .pointer (some ⟨B, 0, none⟩) := (hC 2 (by decide)).2.1
  have D3 : Bd 52 B B (h.l 8) (g 3).1 := (hC 2 (by decide)).2.2 (by
    obtain ⟨_, W2, _, hd, hf⟩ := calls_some (C_otext h.ticket D2 (by have := LL.out 5; omega))
    exact ⟨W2, hf.1, hd⟩)
  have w4 := w3.trans (hC 3 (by decide)).1
  have q3 : (g 4).2 = .pointer (some ⟨B, 0, none⟩) := (hC 3 (by decide)).2.1
  have D4 : Bd 52 B B (h.l 11) (g 4).1 := (hC 3 (by decide)).2.2 (by
    obtain ⟨_, W2, _, hd, hf⟩ := calls_some (C_onum h.wins b3.2 b3.1 D3 (by have := LL.out 8; omega))
    exact ⟨W2, hf.1, hd⟩)
  have w5 := w4.trans (hC 4 (by decide)).1
  have q4 : (g 5).2 = .pointer (some ⟨B, 0, none⟩) := (hC 4 (by decide)).2.1
  have D5 : Bd 52 B B (h.l 15) (g 5).1 := (hC 4 (by decide)).2.2 (by
    obtain ⟨_, W2, _, hd, hf⟩ := calls_some (C_onum (h.power : Int) (by omega) (by omega) D4 (by have := LL.out 11; omega))
    exact ⟨W2, hf.1, hd⟩)
  have w6 := w5.trans (hC 5 (by decide)).1
  have q5 : (g 6).2 = .pointer (some ⟨B, 0, none⟩) := (hC 5 (by decide)).2.1
  have D6 : Bd 52 B B (h.l 19) (g 6).1 := (hC 5 (by decide)).2.2 (by
    obtain ⟨_, W2, _, hd, hf⟩ := calls_some (C_onum (h.parents.length : Int) (by omega) (by omega) D5 (by have := LL.out 15; omega))
    exact ⟨W2, hf.1, hd⟩)
  have hw : ∀ j : Nat, j ≤ 6 → Below B wz (g j).1 := fun j hj => by
    rcases (by omega : j = 0 ∨ j = 1 ∨ j = 2 ∨ j = 3 ∨ j = 4 ∨ j = 5 ∨ j = 6) with rfl | rfl | rfl | rfl | rfl | rfl | rfl
    · exact w0
    · exact w1
    · exact w2
    · exact w3
    · exact w4
    · exact w5
    · exact w6
  have Q0 := Lib.hid q0
  have Q1 := Lib.hid q1
  have Q2 := Lib.hid q2
  have Q3 := Lib.hid q3
  have Q4 := Lib.hid q4
  have Q5 := Lib.hid q5
  have G0 := Lib.hid g0
  have K0 := Lib.hid k0
  have K1 := Lib.hid k1
  have K2 := Lib.hid k2
  have K3 := Lib.hid k3
  have K4 := Lib.hid k4
  have K5 := Lib.hid k5
  have K6 := Lib.hid k6
  clear hC g0 q0 k0 q1 k1 q2 k2 q3 k3 q4 k4 q5 k5 k6
  refine fix4_step (.pointer (some ⟨bx, 0, none⟩)) (by kernel_rfl) (by kernel_rfl) (fun J s _ _ hJ => ?_) ?_
  · go_simp
    exact hJ _ rfl
  intro J hJ
  go_simp
  refine hJ _ ?_
  clear hJ J
  refine fix4_mid (.int .i64 h.height) 0 6 (by kernel_rfl) (by kernel_rfl) (fun J s _ hs hJ => ?_) ?_
  · have hc := HC.out (g s).1 (hw s hs) 0 _ K0.out
    go_simp
    exact hJ _ rfl
  intro J hJ
  go_simp
  refine hJ _ ?_
  clear hJ J
  refine fix4_eff 0 (.pointer (some ⟨B, 0, none⟩)) Q0.out (by kernel_rfl) (by kernel_rfl) (fun J hJ => ?_) ?_
  · go_simp
    go_at_call 18
    refine (C_onum h.height b1.2 b1.1 D0 (by simp)).mono ?_
    rintro e W1 ⟨rfl, hd, hf⟩
    exact hJ _ _ ⟨hf.1, rfl, fun _ => hd⟩
  intro J hJ
  go_simp
  refine hJ _ ?_
  clear hJ J
  refine fix4_step (.pointer (some ⟨bx, 1, none⟩)) (by kernel_rfl) (by kernel_rfl) (fun J s _ _ hJ => ?_) ?_
  · go_simp
    exact hJ _ rfl
  intro J hJ
  go_simp
  refine hJ _ ?_
  clear hJ J
  refine fix4_mid (.int .i64 h.miner) 0 6 (by kernel_rfl) (by kernel_rfl) (fun J s _ hs hJ => ?_) ?_
  · have hc := HC.out (g s).1 (hw s hs) 1 _ K1.out
    go_simp
    exact hJ _ rfl
  intro J hJ
  go_simp
  refine hJ _ ?_
  clear hJ J
  refine fix4_eff 1 (.pointer (some ⟨B, 0, none⟩)) Q1.out (by kernel_rfl) (by kernel_rfl) (fun J hJ => ?_) ?_
  · go_simp
    go_at_call 18
    refine (C_onum h.miner b2.2 b2.1 D1 (by have := LL.out 2; omega)).mono ?_
    rintro e W1 ⟨rfl, hd, hf⟩
    exact hJ _ _ ⟨hf.1, rfl, fun _ => hd⟩
  intro J hJ
  go_simp
  refine hJ _ ?_
  clear hJ J
  refine fix4_step (.pointer (some ⟨bx, 2, none⟩)) (by kernel_rfl) (by kernel_rfl) (fun J s _ _ hJ => ?_) ?_
  · go_simp
    exact hJ _ rfl
  intro J hJ
  go_simp
  refine hJ _ ?_
  clear hJ J
  refine fix4_mid (.string h.ticket) 0 6 (by kernel_rfl) (by kernel_rfl) (fun J s _ hs hJ => ?_) ?_
  · have hc := HC.out (g s).1 (hw s hs) 2 _ K2.out
    go_simp
    exact hJ _ rfl
  intro J hJ
  go_simp
  refine hJ _ ?_
  clear hJ J
  refine fix4_eff 2 (.pointer (some ⟨B, 0, none⟩)) Q2.out (by kernel_rfl) (by kernel_rfl) (fun J hJ => ?_) ?_
  · go_simp
    go_at_call 19
    refine (C_otext h.ticket D2 (by have := LL.out 5; omega)).mono ?_
    rintro e W1 ⟨rfl, hd, hf⟩
    exact hJ _ _ ⟨hf.1, rfl, fun _ => hd⟩
  intro J hJ
  go_simp
  refine hJ _ ?_
  clear hJ J
  refine fix4_step (.pointer (some ⟨bx, 3, none⟩)) (by kernel_rfl) (by kernel_rfl) (fun J s _ _ hJ => ?_) ?_
  · go_simp
    exact hJ _ rfl
  intro J hJ
  go_simp
  refine hJ _ ?_
  clear hJ J
  refine fix4_mid (.int .i64 h.wins) 0 6 (by kernel_rfl) (by kernel_rfl) (fun J s _ hs hJ => ?_) ?_
  · have hc := HC.out (g s).1 (hw s hs) 3 _ K3.out
    go_simp
    exact hJ _ rfl
  intro J hJ
  go_simp
  refine hJ _ ?_
  clear hJ J
  refine fix4_eff 3 (.pointer (some ⟨B, 0, none⟩)) Q3.out (by kernel_rfl) (by kernel_rfl) (fun J hJ => ?_) ?_
  · go_simp
    go_at_call 18
    refine (C_onum h.wins b3.2 b3.1 D3 (by have := LL.out 8; omega)).mono ?_
    rintro e W1 ⟨rfl, hd, hf⟩
    exact hJ _ _ ⟨hf.1, rfl, fun _ => hd⟩
  intro J hJ
  go_simp
  refine hJ _ ?_
  clear hJ J
  refine fix4_step (.pointer (some ⟨bx, 4, none⟩)) (by kernel_rfl) (by kernel_rfl) (fun J s _ _ hJ => ?_) ?_
  · go_simp
    exact hJ _ rfl
  intro J hJ
  go_simp
  refine hJ _ ?_
  clear hJ J
  refine fix4_mid (.int .u64 (h.power : Int)) 0 6 (by kernel_rfl) (by kernel_rfl) (fun J s _ hs hJ => ?_) ?_
  · have hc := HC.out (g s).1 (hw s hs) 4 _ K4.out
    go_simp
    exact hJ _ rfl
  intro J hJ
  go_simp
  refine hJ _ ?_
  clear hJ J
  refine fix4_step (.int .i64 (h.power : Int)) (by kernel_rfl) (by kernel_rfl) (fun J s _ _ hJ => ?_) ?_
  · go_simp
    exact hJ _ rfl
  intro J hJ
  go_simp
  refine hJ _ ?_
  clear hJ J
  refine fix4_eff 4 (.pointer (some ⟨B, 0, none⟩)) Q4.out (by kernel_rfl) (by kernel_rfl) (fun J hJ => ?_) ?_
  · go_simp
    go_at_call 18
    refine (C_onum (h.power : Int) (by omega) (by omega) D4 (by have := LL.out 11; omega)).mono ?_
    rintro e W1 ⟨rfl, hd, hf⟩
    exact hJ _ _ ⟨hf.1, rfl, fun _ => hd⟩
  intro J hJ
  go_simp
  refine hJ _ ?_
  clear hJ J
  refine fix4_step (.pointer (some ⟨bx, 5, none⟩)) (by kernel_rfl) (by kernel_rfl) (fun J s _ _ hJ => ?_) ?_
  · go_simp
    exact hJ _ rfl
  intro J hJ
  go_simp
  refine hJ _ ?_
  clear hJ J
  refine fix4_mid (.slice A h.parents.length c) 0 6 (by kernel_rfl) (by kernel_rfl) (fun J s _ hs hJ => ?_) ?_
  · have hc := HC.out (g s).1 (hw s hs) 5 _ K5.out
    go_simp
    exact hJ _ rfl
  intro J hJ
  go_simp
  refine hJ _ ?_
  clear hJ J
  refine fix4_step (.int .i64 (h.parents.length : Int)) (by kernel_rfl) (by kernel_rfl) (fun J s _ _ hJ => ?_) ?_
  · go_simp
    exact hJ _ rfl
  intro J hJ
  go_simp
  refine hJ _ ?_
  clear hJ J
  refine fix4_eff 5 (.pointer (some ⟨B, 0, none⟩)) Q5.out (by kernel_rfl) (by kernel_rfl) (fun J hJ => ?_) ?_
  · go_simp
    go_at_call 18
    refine (C_onum (h.parents.length : Int) (by omega) (by omega) D5 (by have := LL.out 15; omega)).mono ?_
    rintro e W1 ⟨rfl, hd, hf⟩
    exact hJ _ _ ⟨hf.1, rfl, fun _ => hd⟩
  intro J hJ
  go_simp
  refine hJ _ ?_
  clear hJ J
  refine fix4_nil ?_
  obtain ⟨wv, ewv⟩ : ∃ wv, (g 6).1 = wv := ⟨_, rfl⟩
  have hwv : Below B wz wv := by rw [← ewv]; exact w6
  have dwv : Bd 52 B B (h.l 19) wv := by rw [← ewv]; exact D6
  rw [show (g [2, 5, 8, 11, 15, 19].length).1 = wv from ewv]
  have HD := Lib.hid dwv
  have j5 := HC.out wv hwv 5 _ K5.out
  have j6 := K6
  clear ewv D0 D1 D2 D3 D4 D5 D6 w0 w1 w2 w3 w4 w5 w6 hw dwv K0 K1 K2 K3 K4 Q0 Q1 Q2 Q3 Q4 Q5 G0
  go_wp2
  go_loopw [29] (fun i wr => HbRel h B B wv i wr) (fun i _ => h.parents.length - (intOf i).toNat)
  case atStart => exact ⟨0, by omega, rfl, by simpa using HD.out, Below.refl _ _⟩
  case round =>
    obtain ⟨k, hk, rfl, hd, hb⟩ := hrel
    have hbl := hd.lt
    have HDD := Lib.hid hd
    clear hd
    have b0 : (0 : Int) ≤ (k : Int) := by omega
    by_cases hlt : k < h.parents.length
    · have b1' : (k : Int) < (h.parents.length : Int) := by omega
      obtain ⟨h32, gg, oo, rfl, hgl, hr⟩ := HI.out k hlt
      have htk : (h.parents.take (k + 1)).flatten = (h.parents.take k).flatten ++ h.parents[k] := flat_take h.parents k hlt
      have hfl := ids_flat HI.out k hk
      generalize h.parents[k] = D at h32 hr htk
      have hbw : Below w.heap.size w wr := HBZ.out.trans ((hwv.mono hwB).trans (hb.mono hwB))
      have hr2 : wr.rangeAt gg (oo + k * 32) (Lib.byteCells D) := fun j u hu => (hbw.cell (p := ⟨gg, oo + k * 32 + j, none⟩) hgl).trans (hr j u hu)
      have hi1 : (Tryd.prog.info? 36).map (·.size) = some (Lib.byteCells D).length := by rw [show (Lib.byteCells D).length = 32 by simp [Lib.byteCells, h32]]; kernel_rfl
      have hDi : (Tryd.prog.info? 36).map (·.size) = some (Lib.byteCells D).toArray.size := by rw [show (Lib.byteCells D).toArray.size = 32 by simp [Lib.byteCells, h32]]; kernel_rfl
      have hDs : Z32.size = (Lib.byteCells D).toArray.size := by rw [show (Lib.byteCells D).toArray.size = 32 by simp [Lib.byteCells, h32]]; rfl
      have hDo : (Lib.byteCells D).toArray.all (·.oneCell') = true := by simp [Lib.byteCells, Value.oneCell']
      have hcv := convID (wr.alloc (.cells (Lib.byteCells D).toArray 36)) wr.heap.size D h32 (0, 0) (heap_alloc_new _ _)
      have hl19 := LL.out 19
      have hS : (S D).size = 32 := by rw [S_size, h32]
      have hraw := C_oraw (S D) (Lib.IsBuilderF.alloc HDD.out (.cells (Lib.byteCells D).toArray 36)) (by rw [List.length_append, hfl, hS]; omega)
      have HTK := Lib.hid htk
      have HR2 := Lib.hid hr2
      clear htk hfl hr hr2 hS hbw
      obtain ⟨DC, eDC⟩ : ∃ DC, (Lib.byteCells D).toArray = DC := ⟨_, rfl⟩
      have EDC := Lib.hid eDC
      rw [eDC] at hDi hDs hDo hcv hraw
      clear eDC
      go_wp2_with (first
        | (refine wpList_load_mid (by rfl) 36 (.tmp 31) (by rfl) gg (oo + k * 32) (by rfl) (Lib.byteCells D) _ HR2.out Tryd.underlying36 rfl hi1 ?_; rw [EDC.out])
        | (refine wpList_store_new (by rfl) 36 (.tmp 5) (.tmp 32) (by rfl) wr.heap.size (by rfl) DC Z32 36 (by rfl) (by rfl) hDi hDs hDo ?_)
        | (go_at_call 20; ((with_reducible refine hraw.mono ?_); rintro e w7 ⟨rfl, h7, f7⟩)))
      refine ⟨⟨k + 1, by omega, by go_num, ?_, ?_⟩, by simp [intOf]; omega⟩
      · rw [HTK.out, ← List.append_assoc]
        rw [bl_S] at h7
        exact h7
      · exact (hb.alloc (Nat.le_of_lt hbl.1) _).trans f7.1
    · obtain rfl : k = h.parents.length := by omega
      have hfl := ids_flat HI.out _ (Nat.le_refl _)
      have hl19 := LL.out 19
      rw [List.take_of_length_le (Nat.le_refl _)] at HDD hfl
      have j6 := HC.out wr (hwv.trans hb) 6 _ K6.out
      have hnum := C_onum h.salt b4.2 b4.1 HDD.out (by rw [List.length_append, hfl]; omega)
      have hlt' : ¬ ((h.parents.length : Nat) : Int) < (h.parents.length : Int) := by omega
      clear hfl
      go_wp2_with (first
        | (go_at_call 18; ((with_reducible refine hnum.mono ?_); rintro e w7 ⟨rfl, h7, f7⟩))
        | (go_at_call 21; ((with_reducible refine (C_obytes h7 (by simp [numB])).mono ?_); rintro e w8 ⟨rfl, h8, f8⟩)))
      go_ret
      exact ⟨ret_str (by simp [Hdr.bytes]), HBZ.out.trans (((hwv.trans hb).trans (f7.1.trans f8.1)).mono hwB)⟩
end Go.Proofs.YtdpkodhfelnedaaDoor.Cod

/- header.Header.Check. Contract by what it means. -/
import Derived.Test.YtdpkodhfelnedaaDoorNames
namespace Go.Proofs.YtdpkodhfelnedaaDoor.Cod
open Go.RowKit
structure Hdr where
  height : Int
  miner : Int
  ticket : ByteArray
  wins : Int
  power : Nat
  parents : List (List UInt8)
  salt : Int
def Hdr.val (h : Hdr) (A : Option Addr) (c : Nat) : Value := .agg #[.int .i64 h.height, .int .i64 h.miner, .string h.ticket, .int .i64 h.wins, .int .u64 (h.power : Int), .slice A h.parents.length c, .int .i64 h.salt]
def Hdr.good (h : Hdr) : Bool := decide (1 ≤ h.height ∧ h.height ≤ 1073741824) && (decide (0 ≤ h.miner ∧ h.miner ≤ 63) && (decide (1 ≤ (h.ticket.size : Int) ∧ (h.ticket.size : Int) ≤ 8) && (decide (1 ≤ h.wins ∧ h.wins ≤ 15) && (decide (0 ≤ h.salt ∧ h.salt ≤ 1073741824) && (!decide (h.power < 2) && (!decide (4611686018427387904 < h.power) && (!decide (h.parents.length = 0) && rises h.parents)))))))
def Hdr.chk (h : Hdr) : Int := if 5 < h.parents.length then 4 else if h.good then 0 else 1
set_option maxHeartbeats 2000000 in
set_option maxRecDepth 100000 in
theorem C_hcheck (h : Hdr) (A : Option Addr) (c : Nat) (w : World) (hI : IdsAt w A h.parents) (hlen : h.parents.length ≤ 4611686018427387904) (hpw : h.power < 18446744073709551616) (ht : h.ticket.size ≤ 140737488351232) :
    Calls Tryd.prog 14 #[h.val A c] w fun e w' => e = .returned (.int .i64 h.chk) ∧ Below w.heap.size w w' := by
  have hb1 := (Below.refl w.heap.size w).alloc (Nat.le_refl _)
  have hRise := fun (v : World) (hv : Below w.heap.size w v) => C_rise (c := c) (show IdsAt v A h.parents from by
    intro i hi
    obtain ⟨h1, g, o, h2, h3, h4⟩ := hI i hi
    exact ⟨h1, g, o, h2, Nat.lt_of_lt_of_le h3 hv.size, fun j u hu => (hv.cell (p := ⟨g, o + i * 32 + j, none⟩) h3).trans (h4 j u hu)⟩) hlen
  have HR := Lib.hid hRise
  clear hRise hI
  have ha1 := fun v => C_among h.height 1 1073741824 v
  have ha2 := fun v => C_among h.miner 0 63 v
  have ha3 := fun v => C_among (h.ticket.size : Int) 1 8 v
  have ha4 := fun v => C_among h.wins 1 15 v
  have ha5 := fun v => C_among h.salt 0 1073741824 v
  unfold Hdr.val Hdr.chk Hdr.good
  obtain ⟨ht_, mi, ti, wi, po, pa, sa⟩ := h
  simp only at *
  generalize decide (1 ≤ ht_ ∧ ht_ ≤ 1073741824) = x1 at ha1 ⊢
  generalize decide (0 ≤ mi ∧ mi ≤ 63) = x2 at ha2 ⊢
  generalize decide (1 ≤ (ti.size : Int) ∧ (ti.size : Int) ≤ 8) = x3 at ha3 ⊢
  generalize decide (1 ≤ wi ∧ wi ≤ 15) = x4 at ha4 ⊢
  generalize decide (0 ≤ sa ∧ sa ≤ 1073741824) = x5 at ha5 ⊢
  by_cases h5 : 5 < pa.length
  · have h5' : (pa.length : Int) > 5 := by omega
    rw [if_pos h5]
    go_enter Tryd.func14, Tryd.ntmps14
    go_wp2
    go_ret
    exact ⟨rfl, hb1 _⟩
  · have h5' : ¬ (pa.length : Int) > 5 := by omega
    rw [if_neg h5]
    cases x1
    · go_enter Tryd.func14, Tryd.ntmps14
      go_wp2_with (first
        | (go_at_call 28; first
          | (with_reducible refine (ha1 _).mono ?_; rintro e v1 ⟨rfl, rfl⟩)
          | (with_reducible refine (ha2 _).mono ?_; rintro e v2 ⟨rfl, rfl⟩)
          | (with_reducible refine (ha3 _).mono ?_; rintro e v3 ⟨rfl, rfl⟩)
          | (with_reducible refine (ha4 _).mono ?_; rintro e v4 ⟨rfl, rfl⟩)
          | (with_reducible refine (ha5 _).mono ?_; rintro e v5 ⟨rfl, rfl⟩))
        | (go_at_call 29; ((with_reducible refine (HR.out _ (hb1 _)).mono ?_); rintro e v6 ⟨rfl, f6⟩)))
      go_ret
      exact ⟨rfl, hb1 _⟩
    ·
      cases x2
      · go_enter Tryd.func14, Tryd.ntmps14
        go_wp2_with (first
          | (go_at_call 28; first
            | (with_reducible refine (ha1 _).mono ?_; rintro e v1 ⟨rfl, rfl⟩)
            | (with_reducible refine (ha2 _).mono ?_; rintro e v2 ⟨rfl, rfl⟩)
            | (with_reducible refine (ha3 _).mono ?_; rintro e v3 ⟨rfl, rfl⟩)
            | (with_reducible refine (ha4 _).mono ?_; rintro e v4 ⟨rfl, rfl⟩)
            | (with_reducible refine (ha5 _).mono ?_; rintro e v5 ⟨rfl, rfl⟩))
          | (go_at_call 29; ((with_reducible refine (HR.out _ (hb1 _)).mono ?_); rintro e v6 ⟨rfl, f6⟩)))
        go_ret
        exact ⟨rfl, hb1 _⟩
      ·
        cases x3
        · go_enter Tryd.func14, Tryd.ntmps14
          go_wp2_with (first
            | (go_at_call 28; first
              | (with_reducible refine (ha1 _).mono ?_; rintro e v1 ⟨rfl, rfl⟩)
              | (with_reducible refine (ha2 _).mono ?_; rintro e v2 ⟨rfl, rfl⟩)
              | (with_reducible refine (ha3 _).mono ?_; rintro e v3 ⟨rfl, rfl⟩)
              | (with_reducible refine (ha4 _).mono ?_; rintro e v4 ⟨rfl, rfl⟩)
              | (with_reducible refine (ha5 _).mono ?_; rintro e v5 ⟨rfl, rfl⟩))
            | (go_at_call 29; ((with_reducible refine (HR.out _ (hb1 _)).mono ?_); rintro e v6 ⟨rfl, f6⟩)))
          go_ret
          exact ⟨rfl, hb1 _⟩
        ·
          cases x4
          · go_enter Tryd.func14, Tryd.ntmps14
            go_wp2_with (first
              | (go_at_call 28; first
                | (with_reducible refine (ha1 _).mono ?_; rintro e v1 ⟨rfl, rfl⟩)
                | (with_reducible refine (ha2 _).mono ?_; rintro e v2 ⟨rfl, rfl⟩)
                | (with_reducible refine (ha3 _).mono ?_; rintro e v3 ⟨rfl, rfl⟩)
                | (with_reducible refine (ha4 _).mono ?_; rintro e v4 ⟨rfl, rfl⟩)
                | (with_reducible refine (ha5 _).mono ?_; rintro e v5 ⟨rfl, rfl⟩))
              | (go_at_call 29; ((with_reducible refine (HR.out _ (hb1 _)).mono ?_); rintro e v6 ⟨rfl, f6⟩)))
            go_ret
            exact ⟨rfl, hb1 _⟩
          ·
            cases x5
            · go_enter Tryd.func14, Tryd.ntmps14
              go_wp2_with (first
                | (go_at_call 28; first
                  | (with_reducible refine (ha1 _).mono ?_; rintro e v1 ⟨rfl, rfl⟩)
                  | (with_reducible refine (ha2 _).mono ?_; rintro e v2 ⟨rfl, rfl⟩)
                  | (with_reducible refine (ha3 _).mono ?_; rintro e v3 ⟨rfl, rfl⟩)
                  | (with_reducible refine (ha4 _).mono ?_; rintro e v4 ⟨rfl, rfl⟩)
                  | (with_reducible refine (ha5 _).mono ?_; rintro e v5 ⟨rfl, rfl⟩))
                | (go_at_call 29; ((with_reducible refine (HR.out _ (hb1 _)).mono ?_); rintro e v6 ⟨rfl, f6⟩)))
              go_ret
              exact ⟨rfl, hb1 _⟩
            ·
              by_cases z1 : po < 2
              · have q1 : (po : Int) < 2 := by omega
                have D1 : decide (po < 2) = true := decide_eq_true z1
                rw [D1]
                clear D1
                go_enter Tryd.func14, Tryd.ntmps14
                go_wp2_with (first
                  | (go_at_call 28; first
                    | (with_reducible refine (ha1 _).mono ?_; rintro e v1 ⟨rfl, rfl⟩)
                    | (with_reducible refine (ha2 _).mono ?_; rintro e v2 ⟨rfl, rfl⟩)
                    | (with_reducible refine (ha3 _).mono ?_; rintro e v3 ⟨rfl, rfl⟩)
                    | (with_reducible refine (ha4 _).mono ?_; rintro e v4 ⟨rfl, rfl⟩)
                    | (with_reducible refine (ha5 _).mono ?_; rintro e v5 ⟨rfl, rfl⟩))
                  | (go_at_call 29; ((with_reducible refine (HR.out _ (hb1 _)).mono ?_); rintro e v6 ⟨rfl, f6⟩)))
                go_ret
                exact ⟨rfl, hb1 _⟩
              · have q1 : ¬ (po : Int) < 2 := by omega
                have D1 : decide (po < 2) = false := decide_eq_false z1
                rw [D1]
                clear D1
                by_cases z2 : 4611686018427387904 < po
                · have q2 : (4611686018427387904 : Int) < (po : Int) := by omega
                  have D2 : decide (4611686018427387904 < po) = true := decide_eq_true z2
                  rw [D2]
                  clear D2
                  go_enter Tryd.func14, Tryd.ntmps14
                  go_wp2_with (first
                    | (go_at_call 28; first
                      | (with_reducible refine (ha1 _).mono ?_; rintro e v1 ⟨rfl, rfl⟩)
                      | (with_reducible refine (ha2 _).mono ?_; rintro e v2 ⟨rfl, rfl⟩)
                      | (with_reducible refine (ha3 _).mono ?_; rintro e v3 ⟨rfl, rfl⟩)
                      | (with_reducible refine (ha4 _).mono ?_; rintro e v4 ⟨rfl, rfl⟩)
                      | (with_reducible refine (ha5 _).mono ?_; rintro e v5 ⟨rfl, rfl⟩))
                    | (go_at_call 29; ((with_reducible refine (HR.out _ (hb1 _)).mono ?_); rintro e v6 ⟨rfl, f6⟩)))
                  go_ret
                  exact ⟨rfl, hb1 _⟩
                · have q2 : ¬ (4611686018427387904 : Int) < (po : Int) := by omega
                  have D2 : decide (4611686018427387904 < po) = false := decide_eq_false z2
                  rw [D2]
                  clear D2
                  by_cases z3 : pa.length = 0
                  · have q3 : (pa.length : Int) = 0 := by omega
                    have D3 : decide (pa.length = 0) = true := decide_eq_true z3
                    rw [D3]
                    clear D3
                    go_enter Tryd.func14, Tryd.ntmps14
                    go_wp2_with (first
                      | (go_at_call 28; first
                        | (with_reducible refine (ha1 _).mono ?_; rintro e v1 ⟨rfl, rfl⟩)
                        | (with_reducible refine (ha2 _).mono ?_; rintro e v2 ⟨rfl, rfl⟩)
                        | (with_reducible refine (ha3 _).mono ?_; rintro e v3 ⟨rfl, rfl⟩)
                        | (with_reducible refine (ha4 _).mono ?_; rintro e v4 ⟨rfl, rfl⟩)
                        | (with_reducible refine (ha5 _).mono ?_; rintro e v5 ⟨rfl, rfl⟩))
                      | (go_at_call 29; ((with_reducible refine (HR.out _ (hb1 _)).mono ?_); rintro e v6 ⟨rfl, f6⟩)))
                    go_ret
                    exact ⟨rfl, hb1 _⟩
                  · have q3 : ¬ (pa.length : Int) = 0 := by omega
                    have D3 : decide (pa.length = 0) = false := decide_eq_false z3
                    rw [D3]
                    clear D3
                    have B1 : decide ((po : Int) < 2) = false := decide_eq_false q1
                    have B2 : decide ((4611686018427387904 : Int) < (po : Int)) = false := decide_eq_false q2
                    have B3 : ((pa.length : Int) == 0) = false := by simpa using z3
                    generalize rises pa = rr at HR ⊢
                    cases rr
                    · go_enter Tryd.func14, Tryd.ntmps14
                      go_wp2_with (first
                        | (go_at_call 28; first
                          | (with_reducible refine (ha1 _).mono ?_; rintro e v1 ⟨rfl, rfl⟩)
                          | (with_reducible refine (ha2 _).mono ?_; rintro e v2 ⟨rfl, rfl⟩)
                          | (with_reducible refine (ha3 _).mono ?_; rintro e v3 ⟨rfl, rfl⟩)
                          | (with_reducible refine (ha4 _).mono ?_; rintro e v4 ⟨rfl, rfl⟩)
                          | (with_reducible refine (ha5 _).mono ?_; rintro e v5 ⟨rfl, rfl⟩))
                        | (go_at_call 29; ((with_reducible refine (HR.out _ (hb1 _)).mono ?_); rintro e v6 ⟨rfl, f6⟩)))
                      go_ret
                      exact ⟨rfl, (hb1 _).trans (f6.mono (hb1 _).size)⟩
                    · go_enter Tryd.func14, Tryd.ntmps14
                      go_wp2_with (first
                        | (go_at_call 28; first
                          | (with_reducible refine (ha1 _).mono ?_; rintro e v1 ⟨rfl, rfl⟩)
                          | (with_reducible refine (ha2 _).mono ?_; rintro e v2 ⟨rfl, rfl⟩)
                          | (with_reducible refine (ha3 _).mono ?_; rintro e v3 ⟨rfl, rfl⟩)
                          | (with_reducible refine (ha4 _).mono ?_; rintro e v4 ⟨rfl, rfl⟩)
                          | (with_reducible refine (ha5 _).mono ?_; rintro e v5 ⟨rfl, rfl⟩))
                        | (go_at_call 29; ((with_reducible refine (HR.out _ (hb1 _)).mono ?_); rintro e v6 ⟨rfl, f6⟩)))
                      go_ret
                      exact ⟨rfl, (hb1 _).trans (f6.mono (hb1 _).size)⟩
end Go.Proofs.YtdpkodhfelnedaaDoor.Cod

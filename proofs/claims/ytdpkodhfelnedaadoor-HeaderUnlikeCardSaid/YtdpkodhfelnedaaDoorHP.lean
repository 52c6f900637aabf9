/- Headers out of bytes: what is read. -/
import Derived.Test.YtdpkodhfelnedaaDoorHdM
import Derived.Test.YtdpkodhfelnedaaDoorHdrRoot
namespace Go.Proofs.YtdpkodhfelnedaaDoor.Cod
def MOST : Int := 4611686018427387904
def rdI : Nat → St → List (List UInt8) × St
  | 0, st => ([], st)
  | k + 1, st => ((rdI k st).1 ++ [(inRaw 32 (rdI k st).2).1], (inRaw 32 (rdI k st).2).2)
theorem rdI_succ (k : Nat) (st : St) : rdI (k + 1) st = ((rdI k st).1 ++ [(inRaw 32 (rdI k st).2).1], (inRaw 32 (rdI k st).2).2) := rfl
def pad32 (r : List UInt8) : List UInt8 := if r = [] then List.replicate 32 0 else r
theorem inRaw_ways (n : Nat) (st : St) : (inRaw n st).1 = [] ∨ (inRaw n st).1.length = n := by
  unfold inRaw
  by_cases h : st.2 = 0
  · rw [if_neg (by omega)]
    by_cases hl : st.1.length < n
    · rw [if_pos hl]; exact .inl rfl
    · rw [if_neg hl]; refine .inr ?_; simp only [List.length_take]; omega
  · rw [if_pos h]; exact .inl rfl
theorem pad_len (st : St) : (pad32 (inRaw 32 st).1).length = 32 := by
  unfold pad32
  rcases inRaw_ways 32 st with h | h
  · rw [if_pos h]; simp
  · rw [if_neg (fun e => by rw [e] at h; simp at h)]; exact h
theorem rdI_len (k : Nat) (st : St) : (rdI k st).1.length = k := by
  induction k with
  | zero => rfl
  | succ k ih => simp [rdI, ih]
theorem rdI_pad (k : Nat) (st : St) : ∀ x ∈ (rdI k st).1.map pad32, x.length = 32 := by
  induction k with
  | zero => intro x hx; simp [rdI] at hx
  | succ k ih =>
    intro x hx
    rw [rdI_succ] at hx
    simp only [List.map_append, List.map_cons, List.map_nil] at hx
    rcases List.mem_append.1 hx with h | h
    · exact ih x h
    · simp only [List.mem_singleton] at h; rw [h]; exact pad_len _
def p1 (l : List UInt8) := inNum MOST (l, 0)
def p2 (l : List UInt8) := inNum MOST (p1 l).2
def p3 (l : List UInt8) := inText 8 (p2 l).2
def p4 (l : List UInt8) := inNum MOST (p3 l).2
def p5 (l : List UInt8) := inNum MOST (p4 l).2
def p6 (l : List UInt8) := inNum 5 (p5 l).2
def p7 (l : List UInt8) := rdI (p6 l).1 (p6 l).2
def p8 (l : List UInt8) := inNum MOST (p7 l).2
def hdrOf (l : List UInt8) : Hdr := ⟨(p1 l).1, (p2 l).1, S (p3 l).1, (p4 l).1, (p5 l).1, (p7 l).1.map pad32, (p8 l).1⟩
def zeroH : Hdr := ⟨0, 0, ⟨#[]⟩, 0, 0, [], 0⟩
def hres (l : List UInt8) : Hdr × Int := if inEnd (p8 l).2 ≠ 0 then (zeroH, (inEnd (p8 l).2 : Int)) else if (hdrOf l).chk ≠ 0 then (zeroH, (hdrOf l).chk) else (hdrOf l, 0)
end Go.Proofs.YtdpkodhfelnedaaDoor.Cod

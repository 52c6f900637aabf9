/- disk: the acts among the parameters. -/
import Derived.Test.YtakefjdckacgpaaDkG
import Derived.Test.YtakefjdckacgpaaDskK
namespace Go.Proofs.Ytakefjdckacgpaa.Cod
open Go.RowKit Go.ChangeShapes Go.WideShapes Go.Deep Go.ChangeAt
structure AV where
  k : Int
  n : Int
  nm : ByteArray
  st : ByteArray
  A : Option Addr
  cap : Nat
  cs : List Int
instance : Inhabited AV := ⟨⟨0, 0, ByteArray.empty, ByteArray.empty, none, 0, []⟩⟩
def av (a : AV) : List Value := [.int .i64 a.k, .int .i64 a.n, .string a.nm, .string a.st, .slice a.A a.cs.length a.cap]
structure AVok (w : World) (a : AV) : Prop where
  rows : RowsAt fi 1 w a.A a.cs
  len : a.cs.length ≤ a.cap
  cap : a.cap ≤ maxLen
  nb : a.n ≤ 9223372036854775807
theorem AVok.below {w w' : World} {a : AV} (h : AVok w a) (b : Below w.heap.size w w') : AVok w' a := ⟨h.rows.below b rfl, h.len, h.cap, h.nb⟩
structure Acts (w : World) (A : Option Addr) (l : List AV) : Prop where
  rows : RowsAt av 5 w A l
  ok : ∀ a ∈ l, AVok w a
  max : l.length ≤ maxLen
theorem Acts.below {w w' : World} {A : Option Addr} {l : List AV} (h : Acts w A l) (b : Below w.heap.size w w') : Acts w' A l := ⟨h.rows.below b rfl, fun a ha => (h.ok a ha).below b, h.max⟩
def doA (s : Dst) (a : AV) : Int × Dst := doR s a.k a.n a.nm a.st
/-- a slice of ints that came in -/
theorem open_ints {H : Type} {enc : TypeId × Value → H} {w : World} {base : Nat} {A : Option Addr} {len cap : Nat} {d : DataW H} {p : List MemPlace} (h : DataW.Trod enc Try.prog w base (fun _ => true) true 22 (.slice A len cap) d p) :
    ∃ l : List Int, l.length = len ∧ len ≤ cap ∧ cap ≤ maxLen ∧ RowsAt fi 1 w A l := by
  obtain ⟨l, h1, h2, h3, h4, _⟩ := open_rows (f := fi) (n := 1) (good := fun _ => True) (by decide) (fun _ => rfl) Try.underlying22 (by kernel_rfl) h fun m cs x hx hl => by
    match cs, hl with
    | [c0], _ =>
      obtain ⟨a, q0, _, _⟩ := DataW.trod_int Try.underlying3 hx
      injection q0 with q0
      subst q0
      exact ⟨a, rfl, trivial⟩
  exact ⟨l, h1, h2, h3, h4⟩
theorem open_acts {H : Type} {enc : TypeId × Value → H} {w : World} {base : Nat} {A : Option Addr} {len cap : Nat} {d : DataW H} {p : List MemPlace} (h : DataW.Trod enc Try.prog w base (fun _ => true) true 31 (.slice A len cap) d p) :
    ∃ l : List AV, l.length = len ∧ Acts w A l := by
  obtain ⟨l, h1, h2, h3, h4, h5⟩ := open_rows (f := av) (n := 5) (good := AVok w) (by decide) (fun _ => rfl) Try.underlying31 (by kernel_rfl) h fun m cs x hx hl => by
    obtain ⟨v0, y0, n0, e0, t0⟩ := struct_field (i := 0) Try.underlying34 hx rfl (by kernel_rfl) (by kernel_rfl) (by omega)
    obtain ⟨v1, y1, n1, e1, t1⟩ := struct_field (i := 1) Try.underlying34 hx rfl (by kernel_rfl) (by kernel_rfl) (by omega)
    obtain ⟨v2, y2, n2, e2, t2⟩ := struct_field (i := 2) Try.underlying34 hx rfl (by kernel_rfl) (by kernel_rfl) (by omega)
    obtain ⟨v3, y3, n3, e3, t3⟩ := struct_field (i := 3) Try.underlying34 hx rfl (by kernel_rfl) (by kernel_rfl) (by omega)
    obtain ⟨v4, y4, n4, e4, t4⟩ := struct_field (i := 4) Try.underlying34 hx rfl (by kernel_rfl) (by kernel_rfl) (by omega)
    obtain ⟨a, q0, _, _⟩ := DataW.trod_int Try.underlying3 t0
    obtain ⟨b, q1, _, wb⟩ := DataW.trod_int Try.underlying3 t1
    obtain ⟨s, q2, _, _⟩ := DataW.trod_string Try.underlying9 t2
    obtain ⟨r, q3, _, _⟩ := DataW.trod_string Try.underlying9 t3
    injection q0 with q0
    injection q1 with q1
    injection q2 with q2
    injection q3 with q3
    subst q0 q1 q2 q3
    obtain ⟨C, cl, cc, rfl⟩ : ∃ C cl cc, v4 = .slice C cl cc := by
      rcases open_slice Try.underlying22 t4 with ⟨hcs, _⟩ | ⟨a, l, c, m, k, D, Pl, hcs, _⟩
      · injection hcs with hcs
        exact ⟨_, _, _, hcs⟩
      · injection hcs with hcs
        exact ⟨_, _, _, hcs⟩
    obtain ⟨li, i1, i2, i3, i4⟩ := open_ints ⟨_, t4⟩
    subst i1
    match cs, hl with
    | [c0, c1, c2, c3, c4], _ =>
      simp at e0 e1 e2 e3 e4
      subst e0 e1 e2 e3 e4
      exact ⟨⟨a, b, s, r, C, cc, li⟩, rfl, i4, i2, i3, by have := bounds_i64 wb; show b ≤ _; omega⟩
  exact ⟨l, h1, h4, h5, by omega⟩
theorem below_touch {w a b : World} {d m : Nat} (hb : Below w.heap.size w a) (t : Touch [d, m] a b) (hd : w.heap.size ≤ d) (hm : w.heap.size ≤ m) : Below w.heap.size w b :=
  hb.trans (t.below (fun k hk => by
    rcases List.mem_cons.1 hk with rfl | hk
    · exact hd
    · rw [List.mem_singleton] at hk
      subst hk
      exact hm) hb.size)
/-- a disk's writes leave the names alone -/
theorem rows_disk {w w1 : World} {c mc : Nat} {s : Dst} {B : Option Addr} {l : List ByteArray} (h : RowsAt fn 1 w B l) (hD : DiskAt w c mc s) (t : Touch [c, mc] w w1) : RowsAt fn 1 w1 B l := by
  intro i hi
  obtain ⟨ad, rfl, hl, hcc⟩ := h i hi
  have hcm : ∀ v, w.cell? (caddr (ad.add (i * 1)) 0) = some v → (∃ n, v = .string n) → ad.block ≠ c ∧ ad.block ≠ mc := by
    rintro v hv ⟨n, rfl⟩
    refine ⟨fun e => ?_, fun e => ?_⟩
    · have h1 := hD.cell
      unfold World.cell? at hv
      rw [caddr_block, rblock, e, h1] at hv
      simp at hv
      obtain ⟨_, hv⟩ := hv
      generalize (caddr (ad.add i) 0).off = o at hv
      match o, hv with
      | 0, hv => simp at hv
      | 1, hv => simp at hv
      | 2, hv => simp at hv
      | 3, hv => simp at hv
      | 4, hv => simp at hv
      | o + 5, hv => simp at hv
    · exact cell_ne_map hD.map hv (by rw [caddr_block, rblock]; exact e)
  have hne := hcm _ (hcc 0 _ rfl) ⟨_, rfl⟩
  exact (h.of_block (t.block _ hl (by simp [hne])) t.size) i hi
theorem NamesOk.crash {s : Dst} {fs : List Fl} (h : NamesOk s.files) (hk : fs.map (·.1) = s.files.map (·.1)) : NamesOk fs := ⟨fun f hf => by
  have h1 : f.1 ∈ fs.map (·.1) := List.mem_map.2 ⟨f, hf, rfl⟩
  rw [hk] at h1
  obtain ⟨g, hg, e⟩ := List.mem_map.1 h1
  rw [← e]
  exact h.names g hg, by
  have := congrArg List.length hk
  simp only [List.length_map] at this
  rw [this]
  exact h.few⟩
end Go.Proofs.Ytakefjdckacgpaa.Cod

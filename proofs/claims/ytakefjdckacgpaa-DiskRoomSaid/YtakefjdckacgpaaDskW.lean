/- disk: the layer's fixed fact; Few. -/
import Derived.Test.YtakefjdckacgpaaDskC
import Derived.Test.YtakefjdckacgpaaDskN
namespace Go.Proofs.Ytakefjdckacgpaa.Cod
open Go.RowKit
abbrev bA : ByteArray := ⟨#[97]⟩
abbrev S0 : Dst := ⟨[], 10, 0, -1, false⟩
abbrev S1 : Dst := ⟨[(bA, (⟨#[120, 121]⟩, 0))], 10, 1, -1, false⟩
abbrev S2 : Dst := ⟨[(bA, (⟨#[120, 121]⟩, 2))], 10, 2, -1, false⟩
abbrev S3 : Dst := ⟨[(bA, (⟨#[120, 121, 122]⟩, 2))], 10, 3, -1, false⟩
abbrev S4 : Dst := ⟨[(bA, (⟨#[120, 121]⟩, 2))], 10, 3, -1, false⟩
theorem aw1 : appR S0 bA ⟨#[120, 121]⟩ = (0, S1) := by kernel_rfl
theorem aw2 : syncR S1 bA = (0, S2) := by kernel_rfl
theorem aw3 : appR S2 bA ⟨#[122]⟩ = (0, S3) := by kernel_rfl
theorem aw4 : dnames S3.files = [bA] := by simp [dnames]
theorem aw5 : crashGo [bA] [] S3.files = S4.files := by kernel_rfl
theorem aw6 : readR S4 bA = (⟨#[120, 121]⟩, 0) := by kernel_rfl
theorem aw7 : NamesOk S3.files := ⟨fun f hf => by rw [List.mem_singleton.1 hf]; show (1 : Nat) ≤ maxLen; unfold maxLen; omega, by simp⟩
/-- Crash, with the names that Names gives -/
theorem D_crash' {w : World} {d m : Nat} {s : Dst} (h : DiskAt w d m s) (hk : NamesOk s.files) (A : Option Addr) (cap : Nat) (cs : List Int) (hcs : RowsAt fi 1 w A cs) (hcap : cs.length ≤ cap) (hmax : cap ≤ maxLen) :
    Calls Try.prog 15 #[ptr d, .slice A cs.length cap] w fun e w' => e = .returned (.tuple #[]) ∧ DiskAt w' d m { s with files := crashGo (dnames s.files) cs s.files, halt := -1, down := false } ∧ Touch [d, m] w w' :=
  D_crash h A cap cs hcs hcap hmax (dnames s.files) (by rw [dnames_length]; exact hk.few) (D_names h hk)
set_option maxHeartbeats 4000000 in
set_option maxRecDepth 100000 in
theorem D_awake (w : World) : Calls Try.prog 7 #[] w fun e w' => e = .returned (.bool true) ∧ Below w.heap.size w w' := by
  go_enter Try.func7, Try.ntmps7
  go_wp2_with fail
  go_at_call 8
  with_reducible refine (D_new w 10).mono ?_
  rintro e w1 ⟨d, m, rfl, h1, b1, hd, hm⟩
  have e1 : max 0 (min (10 : Int) 1073741824) = 10 := by decide
  rw [e1] at h1
  have a1 := D_append h1 (by decide) bA ⟨#[120, 121]⟩
  rw [aw1] at a1
  have B1 := Lib.hid b1
  have HD := Lib.hid hd
  have HM := Lib.hid hm
  clear e1 h1 b1 hd hm
  go_wp2_with fail
  go_at_call 9
  with_reducible refine a1.mono ?_
  rintro e w2 ⟨rfl, h2, t2⟩
  have a2 := D_sync h2 (by decide) bA
  rw [aw2] at a2
  have T2 := Lib.hid t2
  clear a1 h2 t2
  go_wp2_with fail
  go_at_call 25
  with_reducible refine a2.mono ?_
  rintro e w3 ⟨rfl, h3, t3⟩
  have a3 := D_append h3 (by decide) bA ⟨#[122]⟩
  rw [aw3] at a3
  have T3 := Lib.hid (T2.out.trans t3)
  clear a2 h3 t3
  go_wp2_with fail
  go_at_call 9
  with_reducible refine a3.mono ?_
  rintro e w4 ⟨rfl, h4, t4⟩
  have a4 := D_crash' h4 aw7 none 0 [] (rows_nil _ _) (by simp) (by simp)
  rw [aw4, List.length_nil] at a4
  have T4 := Lib.hid (T3.out.trans t4)
  clear a3 h4 t4
  go_wp2_with fail
  go_at_call 15
  with_reducible refine a4.mono ?_
  rintro e w5 ⟨rfl, h5, t5⟩
  have h5' : DiskAt w5 d m S4 := by
    have := h5
    rw [aw5] at this
    exact this
  have a5 := D_read h5' bA
  rw [aw6] at a5
  have H5 := Lib.hid h5'
  have T5 := Lib.hid (T4.out.trans t5)
  clear a4 h5 h5' t5
  go_wp2_with fail
  go_at_call 19
  with_reducible refine a5.mono ?_
  rintro e w6 ⟨rfl, b6⟩
  have a6 := D_room (H5.out.below b6)
  have T6 := Lib.hid (T5.out.trans (.of_below b6))
  clear a5 b6
  go_wp2_with fail
  go_at_call 11
  with_reducible refine a6.mono ?_
  rintro e w7 ⟨rfl, rfl⟩
  clear a6
  go_wp2
  go_ret
  refine ⟨rfl, B1.out.trans (T6.out.below (fun k hk => ?_) B1.out.size)⟩
  rcases List.mem_cons.1 hk with rfl | hk
  · exact HD.out
  · rw [List.mem_singleton] at hk
    subst hk
    exact HM.out
theorem sz_le (l : List Int) (n : Nat) : (l.take n).length ≤ n := by rw [List.length_take]; omega
set_option maxHeartbeats 4000000 in
set_option maxRecDepth 100000 in
theorem D_few (w : World) (A : Option Addr) (cap : Nat) (l : List Int) (h : RowsAt fi 1 w A l) (hcap : l.length ≤ cap) (hmax : cap ≤ maxLen) : Calls Try.prog 16 #[.slice A l.length cap] w fun e w' => w = w' ∧ ∃ A2, e = .returned (.slice A2 (l.take 20).length cap) ∧ RowsAt fi 1 w A2 (l.take 20) := by
  unfold maxLen at hmax
  have H := Lib.hid h
  obtain ⟨L, hL⟩ : ∃ L, l.length = L := ⟨_, rfl⟩
  rw [hL] at hcap ⊢
  have HL := Lib.hid hL
  by_cases hk : (L : Int) > 20
  · have hn : l ≠ [] := fun e => by subst e; simp at hL; omega
    obtain ⟨ad, rfl, hadl, hcell⟩ := h 0 (by omega)
    clear h hcell hL
    have h20 : (l.take 20).length = 20 := by rw [List.length_take, HL.out]; omega
    rw [h20]
    have HK := Lib.hid h20
    clear h20 hn
    go_enter Try.func16, Try.ntmps16
    go_wp2
    go_ret
    exact ⟨rfl, _, rfl, H.out.take 20⟩
  · clear h hL
    have h20 : l.take 20 = l := List.take_of_length_le (by rw [HL.out]; omega)
    rw [h20, HL.out]
    have HK := Lib.hid h20
    clear h20
    go_enter Try.func16, Try.ntmps16
    go_wp2
    go_ret
    exact ⟨rfl, _, rfl, H.out⟩
end Go.Proofs.Ytakefjdckacgpaa.Cod

/- CacheAnswers: Of, and the closure that asks it again. -/
import Derived.Test.YtphfomnjhlfdhaaCaC
import Derived.Test.YtphfomnjhlfdhaaRef
import Derived.IntWalk
namespace Go.Proofs.Ytphfomnjhlfdhaa.Cod
open Go.RowKit
def want : List UInt8 → Int
  | [] => 1
  | b :: l => (b.toNat : Int) + 3 * want l
theorem want_le : ∀ l : List UInt8, 0 ≤ want l ∧ want l ≤ 256 * 4 ^ l.length
  | [] => by simp [want]
  | b :: l => by
    have h := want_le l
    have hb : b.toNat < 256 := b.toNat_lt
    have h4 : (0 : Int) < 4 ^ l.length := Int.pow_pos (by omega)
    simp only [want, List.length_cons, Int.pow_succ]
    omega
theorem want_bd (l : List UInt8) (h : l.length ≤ 12) : 0 ≤ want l ∧ want l ≤ 4294967296 := by
  have h1 := want_le l
  have h2 : (4 : Nat) ^ l.length ≤ 4 ^ 12 := Nat.pow_le_pow_right (by omega) h
  have h3 : (4 : Nat) ^ 12 = 16777216 := by decide
  have h4 : (4 : Int) ^ l.length = ((4 ^ l.length : Nat) : Int) := by simp
  omega
abbrev FT := 26
abbrev PT0 := 24
abbrev FV (cb ob : Nat) : Value := .func (.func 8) #[] #[ptr cb, ptr ob]
structure Pre (w : World) (S : List Nat) (c cb ob : Nat) (l : PL) (most hits gets : Int) : Prop where
  cac : Cac w S c l most hits gets
  good : ∀ p ∈ l, p.2 = want (bl p.1)
  len : (l.length : Int) ≤ most
  one : 1 ≤ most
  hits0 : 0 ≤ hits
  hits1 : hits ≤ gets
  cbox : w.heap[cb]? = some (.cells #[ptr c] PT0 (0, 0))
  obox : w.heap[ob]? = some (.cells #[FV cb ob] FT (0, 0))
  cbn : cb ∉ S
  obn : ob ∉ S
def AnsAt (n : Int) (w : World) (S : List Nat) (c cb ob : Nat) (most gets : Int) (k : ByteArray) (e : Ending) (w' : World) : Prop :=
  e = .returned (.int .i64 (want (bl k))) ∧ ∃ S' l' hits' gets', Pre w' S' c cb ob l' most hits' gets' ∧ gets' ≤ gets + n ∧ Touch S w w' ∧ Foot w S S'
theorem Foot.trans {w w1 : World} {S S1 S2 : List Nat} (h : Foot w S S1) (g : Foot w1 S1 S2) (hs : w.heap.size ≤ w1.heap.size) : Foot w S S2 := fun a ha => by
  rcases g a ha with h1 | h1
  · exact h a h1
  · exact .inr (by omega)
theorem Touch.foot {w w1 w2 : World} {S S1 : List Nat} (h : Touch S w w1) (g : Touch S1 w1 w2) (f : Foot w S S1) : Touch S w w2 :=
  ((h.mono (S' := S ++ S1) (by grind)).trans (g.mono (by grind))).strike fun a ha => by
    rcases List.mem_append.1 ha with h1 | h1
    · exact .inl h1
    · exact f a h1
theorem Foot.out {w : World} {S S' : List Nat} (f : Foot w S S') {b : Nat} (hb : b < w.heap.size) (hn : b ∉ S) : b ∉ S' := fun h => by
  rcases f b h with h | h
  · exact hn h
  · omega
theorem lt_of_heap {w : World} {b : Nat} {o : Obj} (h : w.heap[b]? = some o) : b < w.heap.size := (Array.getElem?_eq_some_iff.1 h).1
theorem Pre.step {w w' : World} {S S' : List Nat} {c cb ob : Nat} {l l' : PL} {most hits gets hits' gets' : Int} (h : Pre w S c cb ob l most hits gets) (hc : Cac w' S' c l' most hits' gets') (t : Touch S w w') (f : Foot w S S') (g : ∀ p ∈ l', p.2 = want (bl p.1)) (hl : (l'.length : Int) ≤ most) (h0 : 0 ≤ hits') (h1 : hits' ≤ gets') : Pre w' S' c cb ob l' most hits' gets' :=
  ⟨hc, g, hl, h.one, h0, h1, (t.block cb (lt_of_heap h.cbox) h.cbn).trans h.cbox, (t.block ob (lt_of_heap h.obox) h.obn).trans h.obox, f.out (lt_of_heap h.cbox) h.cbn, f.out (lt_of_heap h.obox) h.obn⟩
theorem lfind_mem {l : PL} {k : ByteArray} {v : Int} (h : lfind l k = some v) : (k, v) ∈ l := by
  unfold lfind at h
  obtain ⟨p, hp, rfl⟩ := Option.map_eq_some_iff.1 h
  have h1 := List.find?_some hp
  have h2 := List.mem_of_find?_eq_some hp
  simp at h1
  subst h1
  exact h2
theorem luse_len {l : PL} {k : ByteArray} {u : Int} (h : lfind l k = some u) (hn : (l.map (·.1)).Nodup) (v : Int) : (luse l k v).length = l.length := by
  have hm := lfind_mem h
  obtain ⟨a, b, rfl⟩ := List.append_of_mem hm
  have hno : ∀ p ∈ a ++ b, p.1 ≠ k := fun p hp e => by
    have h1 : ((a ++ (k, u) :: b).map (·.1)).Perm (k :: (a ++ b).map (·.1)) := (List.perm_middle.map _)
    have h2 := h1.nodup_iff.1 hn
    exact (List.nodup_cons.1 h2).1 (by rw [← e]; exact List.mem_map.2 ⟨p, hp, rfl⟩)
  rw [(split_some (u := u) hno).2 v]
  simp
  omega
theorem luse_good {l : PL} {k : ByteArray} {v : Int} (h : ∀ p ∈ l, p.2 = want (bl p.1)) (hv : v = want (bl k)) : ∀ p ∈ luse l k v, p.2 = want (bl p.1) := by
  intro p hp
  rcases List.mem_cons.1 hp with rfl | hp
  · exact hv
  · exact h p (List.mem_filter.1 hp |>.1)
set_option maxHeartbeats 4000000 in
set_option maxRecDepth 100000 in
theorem C_of {w : World} {S : List Nat} {c cb ob : Nat} {l : PL} {most hits gets : Int} (hP : Pre w S c cb ob l most hits gets) (k : ByteArray) (hg : gets ≤ 100000000)
    (hC : ∀ w1 S1 l1 hits1 gets1, Pre w1 S1 c cb ob l1 most hits1 gets1 → gets1 ≤ gets + 1 → Calls Try.prog 8 #[.string k, ptr cb, ptr ob] w1 (AnsAt k.size w1 S1 c cb ob most gets1 k)) :
    Calls Try.prog 9 #[ptr c, .string k, FV cb ob] w (AnsAt (k.size + 1) w S c cb ob most gets k) := by
  have g0 : 0 ≤ gets := Int.le_trans hP.hits0 hP.hits1
  have hcg := C_get w hP.cac k g0 (by omega) hP.hits0 (by have := hP.hits1; omega)
  rcases hq : lfind l k with _ | v
  · have hP1 := Lib.hid hP
    have HC := Lib.hid hC
    have HQ := Lib.hid hq
    have HG := Lib.hid g0
    unfold GetAt lgot at hcg
    rw [hq] at hcg
    simp only [Option.getD_none, Option.isSome_none, Bool.false_eq_true, if_false, Int.add_zero] at hcg
    clear hP hC hq g0
    go_enter Try.func9, Try.ntmps9
    go_wp2_with fail
    go_at_call 15
    with_reducible refine hcg.mono ?_
    rintro e w1 ⟨rfl, S1, hc1, t1, f1⟩
    have p1 := hP1.out.step hc1 t1 f1 hP1.out.good hP1.out.len hP1.out.hits0 (by have := hP1.out.hits1; omega)
    have T1 := Lib.hid t1
    have F1 := Lib.hid f1
    have c1 := HC.out w1 S1 l hits (gets + 1) p1 (by omega)
    clear hc1 t1 f1 p1 hcg
    go_wp2_with fail
    go_at_call 8
    with_reducible refine c1.mono ?_
    rintro e w2 ⟨rfl, S2, l2, hits2, gets2, p2, hg2, t2, f2⟩
    have hcp := C_put w2 p2.cac k (want (bl k)) p2.one p2.len
    have P2 := Lib.hid p2
    have T2 := Lib.hid (T1.out.foot t2 F1.out)
    have F2 := Lib.hid (F1.out.trans f2 T1.out.size)
    have G2 := Lib.hid hg2
    clear p2 t2 f2 hg2 c1
    go_wp2_with fail
    go_at_call 12
    with_reducible refine hcp.mono ?_
    rintro e w3 ⟨rfl, S3, hc3, t3, f3⟩
    have hl3 : ((((luse l2 k (want (bl k))).take most.toNat).length : Nat) : Int) ≤ most := by
      have := P2.out.one
      rw [List.length_take]
      omega
    have p3 := P2.out.step hc3 t3 f3 (fun p hp => luse_good P2.out.good rfl p (List.mem_of_mem_take hp)) hl3 P2.out.hits0 P2.out.hits1
    have hge : gets2 ≤ gets + (k.size + 1) := by have := G2.out; omega
    have hfin : ∃ S' l' hits' gets', Pre w3 S' c cb ob l' most hits' gets' ∧ gets' ≤ gets + (k.size + 1) ∧ Touch S w w3 ∧ Foot w S S' := ⟨S3, _, hits2, gets2, p3, hge, T2.out.foot t3 F2.out, F2.out.trans f3 T2.out.size⟩
    have HF := Lib.hid hfin
    clear hc3 t3 f3 hl3 p3 hge hfin hcp
    go_wp2
    go_ret
    exact ⟨rfl, HF.out⟩
  · have hv : v = want (bl k) := hP.good _ (lfind_mem hq)
    have hP1 := Lib.hid hP
    have HQ := Lib.hid hq
    unfold GetAt lgot at hcg
    rw [hq] at hcg
    simp only [Option.getD_some, Option.isSome_some, if_true] at hcg
    have HV := Lib.hid hv
    clear hP hC hq hv
    go_enter Try.func9, Try.ntmps9
    go_wp2_with fail
    go_at_call 15
    with_reducible refine hcg.mono ?_
    rintro e w1 ⟨rfl, S1, hc1, t1, f1⟩
    have p1 := hP1.out.step hc1 t1 f1 (luse_good hP1.out.good HV.out) (by rw [luse_len HQ.out hP1.out.cac.nodup]; exact hP1.out.len) (by have := hP1.out.hits0; omega) (by have := hP1.out.hits1; omega)
    have hfin : ∃ S' l' hits' gets', Pre w1 S' c cb ob l' most hits' gets' ∧ gets' ≤ gets + (k.size + 1) ∧ Touch S w w1 ∧ Foot w S S' := ⟨S1, _, _, _, p1, by omega, t1, f1⟩
    have HF := Lib.hid hfin
    clear hc1 t1 f1 p1 hfin hcg
    go_wp2
    go_ret
    exact ⟨by rw [← HV.out]; rfl, HF.out⟩
theorem calls_some {P : Program} {f : FuncId} {args : Array Value} {w : World} {R : Ending → World → Prop} (h : Calls P f args w R) : ∃ e w', R e w' := by
  obtain ⟨e, w', _, h, _⟩ := h []
  exact ⟨e, w', h⟩
theorem Pre.of_blocks {w w' : World} {S : List Nat} {c cb ob : Nat} {l : PL} {most hits gets : Int} (h : Pre w S c cb ob l most hits gets) (e : w'.heap = w.heap) : Pre w' S c cb ob l most hits gets :=
  ⟨h.cac.of_blocks fun a _ => by rw [e], h.good, h.len, h.one, h.hits0, h.hits1, by rw [e]; exact h.cbox, by rw [e]; exact h.obox, h.cbn, h.obn⟩
theorem bl_split (k : ByteArray) (h : 0 < k.size) : bl k = k[0] :: bl (k.extract 1 k.size) := by
  obtain ⟨d⟩ := k
  obtain ⟨l⟩ := d
  cases l with
  | nil => simp [ByteArray.size] at h
  | cons a l =>
    have h1 : (ByteArray.extract ⟨⟨a :: l⟩⟩ 1 (ByteArray.size ⟨⟨a :: l⟩⟩)).data = ⟨l⟩ := by
      rw [ByteArray.data_extract]
      simp [ByteArray.size]
    show a :: l = a :: (ByteArray.extract _ _ _).data.toList
    rw [h1]
set_option maxHeartbeats 4000000 in
set_option maxRecDepth 100000 in
theorem C_cl : ∀ (n : Nat) (k : ByteArray), k.size = n → n ≤ 12 → ∀ {w : World} {S : List Nat} {c cb ob : Nat} {l : PL} {most hits gets : Int}, Pre w S c cb ob l most hits gets → gets + n ≤ 100000000 →
    Calls Try.prog 8 #[.string k, ptr cb, ptr ob] w (AnsAt n w S c cb ob most gets k) := by
  intro n
  induction n with
  | zero =>
    intro k hk _ w S c cb ob l most hits gets hP hg
    have hb : bl k = [] := by
      have := bl_len k
      rw [hk] at this
      exact List.eq_nil_of_length_eq_zero this
    have ht : k.toList.isEmpty = true := by rw [ByteArray.toList_eq]; show (bl k).isEmpty = true; rw [hb]; rfl
    have hfin : ∃ S' l' hits' gets', Pre w S' c cb ob l' most hits' gets' ∧ gets' ≤ gets + (0 : Nat) ∧ Touch S w w ∧ Foot w S S' := ⟨S, l, hits, gets, hP, by omega, .refl _ _, fun a ha => .inl ha⟩
    have HF := Lib.hid hfin
    have HB := Lib.hid hb
    clear hfin hP hk hb
    go_enter Try.func8, Try.ntmps8
    go_wp2
    go_ret
    exact ⟨by rw [HB.out]; rfl, HF.out⟩
  | succ n ih =>
    intro k hk hn w S c cb ob l most hits gets hP hg
    have hks : 0 < k.size := by omega
    have hbs := bl_split k hks
    have hrs : (k.extract 1 k.size).size = n := by simp; omega
    have ht : k.toList.isEmpty = false := by rw [ByteArray.toList_eq]; show (bl k).isEmpty = false; rw [hbs]; rfl
    have hw := want_bd (bl (k.extract 1 k.size)) (by rw [bl_len]; omega)
    obtain ⟨x, hx⟩ : ∃ x : Int, want (bl (k.extract 1 k.size)) = x := ⟨_, rfl⟩
    rw [hx] at hw
    have hy0 : (0 : Int) ≤ (k[0].toNat : Int) ∧ (k[0].toNat : Int) ≤ 255 := by have := k[0].toNat_lt; omega
    have hwa : IntKind.i64.wrap (k[0].toNat : Int) = (k[0].toNat : Int) := IntWalk.i64_in _ (by omega)
    have hwb : IntKind.i64.wrap (3 * x) = 3 * x := IntWalk.i64_in _ (by omega)
    have hwc : IntKind.i64.wrap ((k[0].toNat : Int) + 3 * x) = (k[0].toNat : Int) + 3 * x := IntWalk.i64_in _ (by omega)
    have h1k : (1 : Int) ≤ (k.size : Int) := by omega
    have hC : ∀ w1 S1 l1 hits1 gets1, Pre w1 S1 c cb ob l1 most hits1 gets1 → gets1 ≤ gets + 1 → Calls Try.prog 8 #[.string (k.extract 1 k.size), ptr cb, ptr ob] w1 (AnsAt (k.extract 1 k.size).size w1 S1 c cb ob most gets1 (k.extract 1 k.size)) := fun w1 S1 l1 hits1 gets1 p1 hg1 => by
      rw [hrs]
      exact ih _ hrs (by omega) p1 (by omega)
    have hO := C_of (hP.of_blocks (w' := w.drew) rfl) (k.extract 1 k.size) (by omega) hC
    rw [hrs] at hO
    have hc0 : w.cell? ⟨cb, 0, none⟩ = some (ptr c) := by rw [cell_of_row _ _ _ _ _ _ hP.cbox]; rfl
    have ho0 : w.cell? ⟨ob, 0, none⟩ = some (FV cb ob) := by rw [cell_of_row _ _ _ _ _ _ hP.obox]; rfl
    have HP := Lib.hid hP
    have HBS := Lib.hid hbs
    have HO := Lib.hid hO
    have HK := Lib.hid hk
    have HX := Lib.hid hx
    have HC0 := Lib.hid hc0
    have HO0 := Lib.hid ho0
    have hkm : k.size ≤ 12 + 1 := by omega
    clear hP ih hbs hrs hC hO hc0 ho0 hg hk hn hx hw hy0
    go_enter Try.func8, Try.ntmps8
    go_wp2_with fail
    refine region_fix3 [7] (fun _ _ _ => .int .i64 x) (fun _ W W' => W = w.drew → ∃ e, AnsAt (n + 1) W S c cb ob most gets (k.extract 1 k.size) e W') (by kernel_rfl) (by kernel_rfl) (fun _ W => by
      by_cases h : W = w.drew
      · obtain ⟨e, w', h'⟩ := calls_some HO.out
        exact ⟨w', fun _ => ⟨e, by rw [h]; exact h'⟩⟩
      · exact ⟨W, fun q => absurd q h⟩) fun g g0 hG => ?_
    obtain ⟨e, _, S', l', hits', gets', p1, hg1, t1, f1⟩ := hG 0 (by decide) g0
    have t0 : Touch S w (g 1) := (Touch.refl _ _).drew.trans (by rw [← g0]; exact t1)
    have f0 : Foot w S S' := fun a ha => by
      have := f1 a ha
      rw [g0] at this
      exact this
    have hcs : ∀ s, s ≤ 1 → (g s).cell? ⟨cb, 0, none⟩ = some (ptr c) := fun s hs => by
      rcases (by omega : s = 0 ∨ s = 1) with rfl | rfl
      · rw [g0]; exact HC0.out
      · rw [cell_of_row _ _ _ _ _ _ p1.cbox]; rfl
    have hos : ∀ s, s ≤ 1 → (g s).cell? ⟨ob, 0, none⟩ = some (FV cb ob) := fun s hs => by
      rcases (by omega : s = 0 ∨ s = 1) with rfl | rfl
      · rw [g0]; exact HO0.out
      · rw [cell_of_row _ _ _ _ _ _ p1.obox]; rfl
    have ho' : Calls Try.prog 9 #[ptr c, .string (k.extract 1 k.size), FV cb ob] (g 0) fun e w' => e = .returned (.int .i64 x) ∧ AnsAt (n + 1) w.drew S c cb ob most gets (k.extract 1 k.size) e w' := by
      rw [g0]
      exact HO.out.mono fun e w' h => ⟨by rw [← HX.out]; exact h.1, h⟩
    have HO' := Lib.hid ho'
    have G0 := Lib.hid g0
    have HG := Lib.hid hG
    have HCS := Lib.hid hcs
    have HOS := Lib.hid hos
    have hfin : ∃ S' l' hits' gets', Pre (g 1) S' c cb ob l' most hits' gets' ∧ gets' ≤ gets + ((n + 1 : Nat) : Int) ∧ Touch S w (g 1) ∧ Foot w S S' := ⟨S', l', hits', gets', p1, by push_cast; omega, t0, f0⟩
    have HF := Lib.hid hfin
    clear g0 hG hcs hos hfin p1 hg1 t1 f1 t0 f0 ho'
    refine fix3_step ?_ (by kernel_rfl) rfl (fun J s _ _ hJ => ?_) ?_
    rotate_left
    · go_simp
      exact hJ _ rfl
    intro J hJ
    go_simp
    refine hJ _ ?_
    clear hJ J
    refine fix3_step ?_ (by kernel_rfl) rfl (fun J s _ _ hJ => ?_) ?_
    rotate_left
    · go_simp
      exact hJ _ rfl
    intro J hJ
    go_simp
    refine hJ _ ?_
    clear hJ J
    refine fix3_step ?_ (by kernel_rfl) rfl (fun J s _ _ hJ => ?_) ?_
    rotate_left
    · go_simp
      exact hJ _ rfl
    intro J hJ
    go_simp
    refine hJ _ ?_
    clear hJ J
    refine fix3_mid ?_ 0 1 (by kernel_rfl) rfl (fun J s hl hs hJ => ?_) ?_
    rotate_left
    · have hc := HCS.out s hs
      go_simp
      exact hJ _ rfl
    intro J hJ
    go_simp
    refine hJ _ ?_
    clear hJ J
    refine fix3_step ?_ (by kernel_rfl) rfl (fun J s _ _ hJ => ?_) ?_
    rotate_left
    · go_simp
      exact hJ _ rfl
    intro J hJ
    go_simp
    refine hJ _ ?_
    clear hJ J
    refine fix3_step ?_ (by kernel_rfl) rfl (fun J s _ _ hJ => ?_) ?_
    rotate_left
    · go_simp
      exact hJ _ rfl
    intro J hJ
    go_simp
    refine hJ _ ?_
    clear hJ J
    refine fix3_mid ?_ 0 1 (by kernel_rfl) rfl (fun J s hl hs hJ => ?_) ?_
    rotate_left
    · have hc := HOS.out s hs
      go_simp
      exact hJ _ rfl
    intro J hJ
    go_simp
    refine hJ _ ?_
    clear hJ J
    refine fix3_eff 0 (.int .i64 x) (rfl) (by kernel_rfl) rfl (fun J hJ => ?_) ?_
    · go_simp
      (go_at_call 9; (with_reducible refine HO'.out.mono ?_); rintro e w1 ⟨rfl, h1⟩; exact hJ _ (fun q => ⟨_, by rw [q]; exact h1⟩))
    intro J hJ
    go_simp
    refine hJ _ ?_
    clear hJ J
    refine fix3_step ?_ (by kernel_rfl) rfl (fun J s _ _ hJ => ?_) ?_
    rotate_left
    · go_simp
      exact hJ _ rfl
    intro J hJ
    go_simp
    refine hJ _ ?_
    clear hJ J
    refine fix3_step ?_ (by kernel_rfl) rfl (fun J s _ _ hJ => ?_) ?_
    rotate_left
    · go_simp
      exact hJ _ rfl
    intro J hJ
    go_simp
    refine hJ _ ?_
    clear hJ J
    refine fix3_step ?_ (by kernel_rfl) rfl (fun J s _ _ hJ => ?_) ?_
    rotate_left
    · go_simp
      exact hJ _ rfl
    intro J hJ
    go_simp
    refine hJ _ ?_
    clear hJ J
    refine fix3_nil ?_
    have hg1 : g [7].length = g 1 := rfl
    rw [hg1]
    go_wp2
    go_ret
    refine ⟨?_, HF.out⟩
    rw [HBS.out]
    show _ = Ending.returned (.int .i64 ((k[0].toNat : Int) + 3 * want _))
    rw [HX.out]
    rfl
end Go.Proofs.Ytphfomnjhlfdhaa.Cod

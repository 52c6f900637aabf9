/- HeaderUnlike: the walk. -/
import Derived.Test.YtdpkodhfelnedaaDoorHOwn
import Derived.Test.YtdpkodhfelnedaaDoorHSame2
import Derived.Test.YtdpkodhfelnedaaDoorHAwake
import Derived.Test.YtdpkodhfelnedaaDoorFix6
namespace Go.Proofs.YtdpkodhfelnedaaDoor.Cod
open Go.RowKit
theorem chk_flds (H : Hdr) (hc : H.chk = 0) : (1 ≤ H.height ∧ H.height ≤ 1073741824) ∧ (0 ≤ H.miner ∧ H.miner ≤ 63) ∧ (1 ≤ (H.ticket.size : Int) ∧ (H.ticket.size : Int) ≤ 8) ∧ (1 ≤ H.wins ∧ H.wins ≤ 15) ∧ (0 ≤ H.salt ∧ H.salt ≤ 1073741824) ∧ ¬ 4611686018427387904 < H.power := by
  have h5 : ¬ 5 < H.parents.length := fun h => by unfold Hdr.chk at hc; rw [if_pos h] at hc; cases hc
  have hg : H.good = true := by
    cases e : H.good with
    | true => rfl
    | false => rw [chk_bad H h5 e] at hc; cases hc
  unfold Hdr.good at hg
  simp only [Bool.and_eq_true, decide_eq_true_eq, Bool.not_eq_true', decide_eq_false_iff_not] at hg
  obtain ⟨g1, g2, g3, g4, g5, g6, g7, g8, _⟩ := hg
  exact ⟨g1, g2, g3, g4, g5, g7⟩
theorem hbytes_inj {H K : Hdr} (h1 : H.chk = 0) (h2 : K.chk = 0) (p1 : ∀ x ∈ H.parents, x.length = 32) (p2 : ∀ x ∈ K.parents, x.length = 32) (h : H.bytes = K.bytes) : H = K := by
  have e1 := hdr_back H h1 p1
  have e2 := hdr_back K h2 p2
  rw [h, e2] at e1
  exact (congrArg Prod.fst e1).symm
/-- a row of texts, somewhere -/
theorem texts_mk (W : World) (xs : List ByteArray) : ∃ W' A c, TextsAt W' A c xs ∧ Below W.heap.size W W' ∧ ∀ b o, A = some ⟨b, o, none⟩ → W.heap.size ≤ b := by
  refine ⟨W.alloc (.cells (xs.map Value.string).toArray 0), some ⟨W.heap.size, 0, none⟩, xs.length, ⟨Nat.le_refl _, fun _ => ⟨W.heap.size, 0, rfl, by simp, fun j x hx => ?_⟩⟩, (Below.refl _ _).alloc (Nat.le_refl _) _, fun b o e => by injection e with e; injection e with e1; omega⟩
  rw [Nat.zero_add, cell_of_row _ _ j _ _ _ (heap_alloc_new W _)]
  simp [hx]
/-- a row of names, somewhere -/
theorem ids_mk (W : World) (D : List (List UInt8)) (hD : ∀ x ∈ D, x.length = 32) : ∃ W' A, IdsAt W' A D ∧ Below W.heap.size W W' ∧ ∀ b o, A = some ⟨b, o, none⟩ → W.heap.size ≤ b ∧ b < W'.heap.size := by
  refine ⟨W.alloc (.cells (D.flatMap Lib.byteCells).toArray 0), some ⟨W.heap.size, 0, none⟩, fun i hi => ⟨hD _ (List.getElem_mem hi), W.heap.size, 0, rfl, by simp, fun j v hv => ?_⟩, (Below.refl _ _).alloc (Nat.le_refl _) _, fun b o e => by injection e with e; injection e with e1; subst e1; exact ⟨Nat.le_refl _, by simp⟩⟩
  rw [cell_of_row _ _ _ _ _ _ (heap_alloc_new W _)]
  have hlen : j < (Lib.byteCells D[i]).length := (List.getElem?_eq_some_iff.1 hv).1
  rw [Lib.byteCells_length, hD _ (List.getElem_mem hi)] at hlen
  rw [List.getElem?_toArray, ← hv, Nat.zero_add]
  clear hv
  induction D generalizing i with
  | nil => simp at hi
  | cons a D ih =>
    have ha : (Lib.byteCells a).length = 32 := by rw [Lib.byteCells_length]; exact hD a (by simp)
    cases i with
    | zero =>
      rw [List.flatMap_cons, List.getElem?_append_left (by rw [ha]; omega)]
      simp
    | succ i =>
      rw [List.flatMap_cons, List.getElem?_append_right (by rw [ha]; omega), ha, show (i + 1) * 32 + j - 32 = i * 32 + j by omega]
      exact ih (fun x hx => hD x (by simp [hx])) i (by simpa using hi)
theorem TextsAt.row {v : World} {A : Option Addr} {c : Nat} {xs : List ByteArray} (h : TextsAt v A c xs) (n : Nat) (cs : Array Value) (hn : ∀ b o, A = some ⟨b, o, none⟩ → b ≠ n) : TextsAt (v.setRow n cs) A c xs := by
  refine ⟨h.1, fun h0 => ?_⟩
  obtain ⟨b, o, e, hb', hc⟩ := h.2 h0
  exact ⟨b, o, e, by simpa using hb', fun j x hx => (World.cell?_of_block (w := v) (a := ⟨b, o + j, none⟩) (setRow_other _ _ _ _ (hn b o e))).trans (hc j x hx)⟩
theorem IdsAt.row {v : World} {A : Option Addr} {l : List (List UInt8)} (h : IdsAt v A l) (n : Nat) (cs : Array Value) (hn : ∀ b o, A = some ⟨b, o, none⟩ → b ≠ n) : IdsAt (v.setRow n cs) A l := fun i hi => by
  obtain ⟨h1, g, o, h2, h3, h4⟩ := h i hi
  exact ⟨h1, g, o, h2, by simpa using h3, fun j u hu => (World.cell?_of_block (w := v) (a := ⟨g, o + i * 32 + j, none⟩) (setRow_other _ _ _ _ (hn g o h2))).trans (h4 j u hu)⟩
def cellsOf (v : Value) : Array Value := match v with | .agg c => c | _ => #[]
def blkOf (v : Value) : Nat := match v with | .pointer (some a) => a.block | _ => 0
def es6 : List (List Nat) := [[1, 3, 4, 5, 6, 7], [1, 3, 5, 4, 6, 7], [1, 4, 3, 5, 6, 7], [1, 4, 5, 3, 6, 7], [1, 5, 3, 4, 6, 7], [1, 5, 4, 3, 6, 7], [4, 1, 3, 5, 6, 7], [4, 1, 5, 3, 6, 7], [4, 5, 1, 3, 6, 7], [5, 1, 3, 4, 6, 7], [5, 1, 4, 3, 6, 7], [5, 4, 1, 3, 6, 7]]
def goodE (E : List Nat) : Bool := E.length == 6 && decide (1 ∈ E) && decide (3 ∈ E) && decide (4 ∈ E) && decide (5 ∈ E) && decide (6 ∈ E) && decide (7 ∈ E) && E.idxOf 6 == 4 && E.idxOf 7 == 5 && E.getD 4 0 == 6 && E.getD 5 0 == 7 && decide (E.idxOf 1 < E.idxOf 3) && decide (E.idxOf 3 < 4) && decide (E.idxOf 4 < 4) && decide (E.idxOf 5 < 4) && E.idxOf 4 != E.idxOf 5
  && (List.range 6).all (fun j => [1, 3, 4, 5, 6, 7].all fun i => (E.getD j 0 == i) == (j == E.idxOf i)) && (List.range 4).all (fun j => [1, 3, 4, 5].any fun i => E.getD j 0 == i)
theorem goodEs : ∀ E ∈ es6, goodE E = true := by decide
structure Order6 (E : List Nat) (k1 k3 k4 k5 : Nat) : Prop where
  len : E.length = 6
  m1 : 1 ∈ E
  m3 : 3 ∈ E
  m4 : 4 ∈ E
  m5 : 5 ∈ E
  m6 : 6 ∈ E
  m7 : 7 ∈ E
  i1 : E.idxOf 1 = k1
  i3 : E.idxOf 3 = k3
  i4 : E.idxOf 4 = k4
  i5 : E.idxOf 5 = k5
  i6 : E.idxOf 6 = 4
  i7 : E.idxOf 7 = 5
  lt13 : k1 < k3
  lt3 : k3 < 4
  lt4 : k4 < 4
  lt5 : k5 < 4
  ne : k4 ≠ k5
  at_ : ∀ j, j < 6 → ∀ i, i = 1 ∨ i = 3 ∨ i = 4 ∨ i = 5 ∨ i = 6 ∨ i = 7 → (E.getD j 0 = i ↔ j = E.idxOf i)
  low : ∀ j, j < 4 → E.getD j 0 = 1 ∨ E.getD j 0 = 3 ∨ E.getD j 0 = 4 ∨ E.getD j 0 = 5
theorem order6 {E : List Nat} (h : E ∈ es6) : ∃ k1 k3 k4 k5, Order6 E k1 k3 k4 k5 := by
  have g := goodEs E h
  unfold goodE at g
  simp only [Bool.and_eq_true, decide_eq_true_eq, beq_iff_eq, bne_iff_ne, List.all_eq_true, List.any_eq_true, List.mem_range] at g
  obtain ⟨⟨⟨⟨⟨⟨⟨⟨⟨⟨⟨⟨⟨⟨⟨⟨⟨a1, a2⟩, a3⟩, a4⟩, a5⟩, a6⟩, a7⟩, a8⟩, a9⟩, a10⟩, a11⟩, a12⟩, a13⟩, a14⟩, a15⟩, a16⟩, a17⟩, a18⟩ := g
  refine ⟨_, _, _, _, a1, a2, a3, a4, a5, a6, a7, rfl, rfl, rfl, rfl, a8, a9, a12, a13, a14, a15, a16, fun j hj i hi => ?_, fun j hj => ?_⟩
  · have := a17 j hj i (by simp; omega)
    rw [Bool.eq_iff_iff, beq_iff_eq, beq_iff_eq] at this
    exact this
  · obtain ⟨i, hi, he⟩ := a18 j hj
    simp only [List.mem_cons, List.not_mem_nil, or_false] at hi
    omega
theorem order6m {E : List Nat} (h : E ∈ es6) (i : Nat) (hi : i = 1 ∨ i = 3 ∨ i = 4 ∨ i = 5 ∨ i = 6 ∨ i = 7) : i ∈ E := by
  obtain ⟨k1, k3, k4, k5, O⟩ := order6 h
  rcases hi with rfl | rfl | rfl | rfl | rfl | rfl
  · exact O.m1
  · exact O.m3
  · exact O.m4
  · exact O.m5
  · exact O.m6
  · exact O.m7
theorem few_32 (xs : List ByteArray) (k : Nat) : ∀ x ∈ fewL xs k, x.length = 32 := by
  intro x hx
  obtain ⟨y, _, rfl⟩ := List.mem_map.1 hx
  exact fit32_len _
theorem few_le (xs : List ByteArray) (k : Nat) : (fewL xs k).length ≤ k := by unfold fewL; rw [List.length_map, List.length_take]; omega
/-- a guarded load of a whole row -/
theorem load_row_when {P : Program} {ops : Array Oper} {rest : List Oper} {o : Oper} {a : Act} {w : World} {Q : Exit → Act → World → Prop} (hw : Region.wanted o (yielded ops a.tmps) = true) (ty : TypeId) (x : Operand) (ho : o.op = .load ty x)
    (g : Nat) (hx : a.eval x = .pointer (some ⟨g, 0, none⟩)) (t : TypeId) (cs : Array Value) (fr : Nat × Nat) (d : TypeDesc) (hg : w.heap[g]? = some (.cells cs t fr))
    (hu : P.underlying ty = some d) (hd : d.isRow = true) (hi : (P.info? ty).map (·.size) = some cs.size)
    (h : wpList P ops Q rest (a.put o.dst (.agg cs)) w) : wpList P ops Q (o :: rest) a w := by
  unfold wpList
  rw [if_pos hw]
  exact .inl (wp_load_row ty x ho g hx t cs fr d hg hu hd hi h)
set_option maxHeartbeats 16000000 in
set_option maxRecDepth 100000 in
theorem W_HeaderUnlike (h1 m1 : Int) (t1 : ByteArray) (i1 : Int) (p1 : Nat) (A1 : Option Addr) (c1 : Nat) (s1 : Int) (xs1 : List ByteArray) (h2 m2 : Int) (t2 : ByteArray) (i2 : Int) (p2 : Nat) (A2 : Option Addr) (c2 : Nat) (s2 : Int) (xs2 : List ByteArray) (w : World)
    (hT1 : ArgT w A1 xs1) (hT2 : ArgT w A2 xs2) (hx1 : xs1.length ≤ 9223372036854775807) (hx2 : xs2.length ≤ 9223372036854775807) (hs1 : t1.size ≤ 140737488351232) (hs2 : t2.size ≤ 140737488351232) (hL : Laid w) :
    Calls Tryd.prog 3 #[rhv h1 m1 t1 i1 p1 A1 xs1.length c1 s1, rhv h2 m2 t2 i2 p2 A2 xs2.length c2 s2] w fun e w' => e = .returned (.bool true) ∧ Below w.heap.size w w' := by
  have hF1 := fun v hv => C_few5 h1 m1 t1 i1 p1 A1 c1 s1 xs1 v hv hx1 hs1
  have hF2 := fun v hv => C_few5 h2 m2 t2 i2 p2 A2 c2 s2 xs2 v hv hx2 hs2
  have p32 : ∀ x ∈ (fewH h1 m1 t1 i1 p1 xs1 s1).parents, x.length = 32 := few_32 xs1 7
  have q32 : ∀ x ∈ (fewH h2 m2 t2 i2 p2 xs2 s2).parents, x.length = 32 := few_32 xs2 7
  have pl : (fewH h1 m1 t1 i1 p1 xs1 s1).parents.length ≤ 7 := few_le xs1 7
  have ql : (fewH h2 m2 t2 i2 p2 xs2 s2).parents.length ≤ 7 := few_le xs2 7
  generalize fewH h1 m1 t1 i1 p1 xs1 s1 = H at hF1 p32 pl
  generalize fewH h2 m2 t2 i2 p2 xs2 s2 = K at hF2 q32 ql
  obtain ⟨b, hb⟩ : ∃ b : Bool, (b = true ↔ H = K) := by
    classical
    exact ⟨decide (H = K), decide_eq_true_iff⟩
  have hSa : ∀ A A2 c c2 v, IdsAt v A H.parents → TextsAt v A2 c2 (K.parents.map S) → Calls Tryd.prog 8 #[H.val A c, K.val A2 c2] v fun e w' => e = .returned (.bool b) ∧ Below v.heap.size v w' := fun A A2 c c2 v hi ht => by
    cases b with
    | true =>
      obtain rfl := hb.1 rfl
      exact C_same H A A2 c c2 v hi ht (by omega)
    | false => exact C_same_not H K A A2 c c2 v (fun e => by cases hb.2 e) q32 hi ht (by omega) (by omega)
  have hbyt : H.chk = 0 → K.chk = 0 → ((S H.bytes).toList == (S K.bytes).toList) = b ∧ decide ((S H.bytes).toList = (S K.bytes).toList) = b := fun z1 z2 => by
    cases b with
    | true =>
      obtain rfl := hb.1 rfl
      exact ⟨by simp, by simp⟩
    | false =>
      have hne : S H.bytes ≠ S K.bytes := fun e => by cases hb.2 (hbytes_inj z1 z2 p32 q32 (S_inj e))
      exact ⟨beq_eq_false_iff_ne.2 (tl_ne hne), decide_eq_false (tl_ne hne)⟩
  obtain ⟨q, hq⟩ : ∃ q : Bool, decide (sha H.bytes = sha K.bytes) = q := ⟨_, rfl⟩
  have hqb : b = true → q = true := fun e => by
    obtain rfl := hb.1 e
    rw [← hq]; simp
  have heq := fun W => eqId (sha H.bytes) (sha K.bytes) (sha_len _) (sha_len _) W 9998
  simp only [hq] at heq
  clear hq hb
  have hCk1 : ∀ A c v, TextsAt v A c (H.parents.map S) → Calls Tryd.prog 6 #[H.val A c] v fun e w' => e = .returned (.int .i64 H.chk) ∧ Below v.heap.size v w' := fun A c v ht => by
    have := R_hcheck H.height H.miner H.ticket H.wins H.power A c H.salt (H.parents.map S) v ht (by rw [List.length_map]; omega)
    rw [List.length_map, List.map_map, show (bl ∘ S) = id from funext bl_S, List.map_id] at this
    exact this
  have hCk2 : ∀ A c v, TextsAt v A c (K.parents.map S) → Calls Tryd.prog 6 #[K.val A c] v fun e w' => e = .returned (.int .i64 K.chk) ∧ Below v.heap.size v w' := fun A c v ht => by
    have := R_hcheck K.height K.miner K.ticket K.wins K.power A c K.salt (K.parents.map S) v ht (by rw [List.length_map]; omega)
    rw [List.length_map, List.map_map, show (bl ∘ S) = id from funext bl_S, List.map_id] at this
    exact this
  have hO1 := fun A c v ht => C_own5 H.height H.miner H.ticket H.wins H.power A c H.salt H.parents p32 v ht (by omega)
  have hO2 := fun A c v ht => C_own5 K.height K.miner K.ticket K.wins K.power A c K.salt K.parents q32 v ht (by omega)
  have hB1 : H.chk = 0 → ∀ A c v, IdsAt v A H.parents → Calls Tryd.prog 9 #[H.val A c] v fun e w' => e = .returned (.string (S H.bytes)) ∧ Below v.heap.size v w' := fun hz A c v h => by
    obtain ⟨g1, g2, g3, g4, g5, g7⟩ := chk_flds H hz
    exact C_hbytes H A c v h (by omega) (by omega) (by omega) (by omega) (by omega) (by omega) (by omega)
  have hB2 : K.chk = 0 → ∀ A c v, IdsAt v A K.parents → Calls Tryd.prog 9 #[K.val A c] v fun e w' => e = .returned (.string (S K.bytes)) ∧ Below v.heap.size v w' := fun hz A c v h => by
    obtain ⟨g1, g2, g3, g4, g5, g7⟩ := chk_flds K hz
    exact C_hbytes K A c v h (by omega) (by omega) (by omega) (by omega) (by omega) (by omega) (by omega)
  have hI1 : H.chk = 0 → ∀ A c v, Laid v → IdsAt v A H.parents → Calls Tryd.prog 10 #[H.val A c] v fun e w' => e = .returned (idv (sha H.bytes)) ∧ Below v.heap.size v w' := fun hz A c v hv h => by
    obtain ⟨g1, g2, g3, g4, g5, g7⟩ := chk_flds H hz
    exact C_hid H A c v hv h (by omega) (by omega) (by omega) (by omega) (by omega) (by omega) (by omega)
  have hI2 : K.chk = 0 → ∀ A c v, Laid v → IdsAt v A K.parents → Calls Tryd.prog 10 #[K.val A c] v fun e w' => e = .returned (idv (sha K.bytes)) ∧ Below v.heap.size v w' := fun hz A c v hv h => by
    obtain ⟨g1, g2, g3, g4, g5, g7⟩ := chk_flds K hz
    exact C_hid K A c v hv h (by omega) (by omega) (by omega) (by omega) (by omega) (by omega) (by omega)
  have hAw := fun v (hv : Laid v) => C_awake5 v hv
  obtain ⟨z1, ez1⟩ : ∃ z, H.chk = z := ⟨_, rfl⟩
  obtain ⟨z2, ez2⟩ : ∃ z, K.chk = z := ⟨_, rfl⟩
  simp only [ez1] at hCk1 hB1 hI1 hbyt
  simp only [ez2] at hCk2 hB2 hI2 hbyt
  clear ez1 ez2
  generalize S H.bytes = sb1 at hB1 hbyt
  generalize S K.bytes = sb2 at hB2 hbyt
  unfold idv at heq hI1 hI2
  generalize (Lib.byteCells (sha H.bytes)).toArray = X1 at heq hI1
  generalize (Lib.byteCells (sha K.bytes)).toArray = X2 at heq hI2
  unfold Hdr.val at hF1 hF2 hSa hCk1 hCk2 hO1 hO2 hB1 hB2 hI1 hI2
  obtain ⟨hh, mi, ti, wi, po, D, sa⟩ := H
  obtain ⟨hh', mi', ti', wi', po', E, sa'⟩ := K
  simp only at hF1 hF2 hSa hCk1 hCk2 hO1 hO2 hB1 hB2 hI1 hI2 p32 q32 pl ql
  have infoR : (Tryd.prog.info? 25).map (·.size) = some 7 := by kernel_rfl
  have infoH : (Tryd.prog.info? 31).map (·.size) = some 7 := by kernel_rfl
  have h2s := hL.size
  have HF1 := Lib.hid hF1
  have HF2 := Lib.hid hF2
  have HSA := Lib.hid hSa
  have HCK1 := Lib.hid hCk1
  have HCK2 := Lib.hid hCk2
  have HO1 := Lib.hid hO1
  have HO2 := Lib.hid hO2
  have HB1 := Lib.hid hB1
  have HB2 := Lib.hid hB2
  have HI1 := Lib.hid hI1
  have HI2 := Lib.hid hI2
  have HAW := Lib.hid hAw
  have HEQ := Lib.hid heq
  have HBY := Lib.hid hbyt
  have HQB := Lib.hid hqb
  have HLD := Lib.hid hL
  have HT1 := Lib.hid hT1
  have HT2 := Lib.hid hT2
  clear hF1 hF2 hSa hCk1 hCk2 hO1 hO2 hB1 hB2 hI1 hI2 hAw heq hbyt hqb hL hT1 hT2
  have b0 : ∀ o1 o2 : Obj, Below w.heap.size w ((w.alloc o1).alloc o2) := fun o1 o2 => ((Below.refl _ _).alloc (Nat.le_refl _) _).alloc (by simp) _
  unfold rhv
  go_enter Tryd.func3, Tryd.ntmps3
  go_upto_region 3 with (go_at_call 4; (refine (HAW.out _ (HLD.out.below (b0 _ _) (by omega))).mono ?_); rintro e w1 ⟨rfl, f1⟩)
  have r1 : w1.heap[w.heap.size]? = some (.cells #[.int .i64 h1, .int .i64 m1, .string t1, .int .i64 i1, .int .u64 (p1 : Int), .slice A1 xs1.length c1, .int .i64 s1] 25 (0, 0)) := (f1.block _ (by simp; omega)).trans (heap_alloc2_old w _ _)
  have r2 : w1.heap[w.heap.size + 1]? = some (.cells #[.int .i64 h2, .int .i64 m2, .string t2, .int .i64 i2, .int .u64 (p2 : Int), .slice A2 xs2.length c2, .int .i64 s2] 25 (0, 0)) := (f1.block _ (by simp)).trans (heap_alloc2_new w _ _)
  have g1 : Below w.heap.size w w1 := (b0 _ _).trans (f1.mono (b0 _ _).size)
  have HA1 := Lib.hid (HT1.out.below g1)
  have HA2 := Lib.hid (HT2.out.below g1)
  have HL1 := Lib.hid (HLD.out.below g1 (by omega))
  clear f1 HT1 HT2
  obtain ⟨Y, eY⟩ : ∃ Y, w.heap.size + 1 = Y := ⟨_, rfl⟩
  obtain ⟨X, eX⟩ : ∃ X, w.heap.size = X := ⟨_, rfl⟩
  rw [eY] at r2
  rw [eX] at r1 g1 h2s
  rw [eY, eX]
  have hXY : X < Y := by omega
  have EX := Lib.hid eX
  clear eX eY b0
  have lX : X < w1.heap.size := (Array.getElem?_eq_some_iff.1 r1).1
  have lY : Y < w1.heap.size := (Array.getElem?_eq_some_iff.1 r2).1
  refine region_fix5 [[1, 3, 4, 5]] [1, 3, 4, 5] rfl (fun i k g W' u => if i = 1 then ∃ A c, u = .agg #[.int .i64 hh, .int .i64 mi, .string ti, .int .i64 wi, .int .u64 (po : Int), .slice A D.length c, .int .i64 sa] ∧ TextsAt W' A c (D.map S) ∧ Below (g k).1.heap.size (g k).1 W' ∧ (∀ b o, A = some ⟨b, o, none⟩ → (g k).1.heap.size ≤ b)
    else if i = 3 then ∃ A c, u = .agg #[.int .i64 hh', .int .i64 mi', .string ti', .int .i64 wi', .int .u64 (po' : Int), .slice A E.length c, .int .i64 sa'] ∧ TextsAt W' A c (E.map S) ∧ Below (g k).1.heap.size (g k).1 W' ∧ (∀ b o, A = some ⟨b, o, none⟩ → (g k).1.heap.size ≤ b)
    else if i = 4 then (1 ≤ k → W' = (g k).1.setRow X (cellsOf (g 1).2)) ∧ u = undef else (2 ≤ k → W' = (g k).1.setRow Y (cellsOf (g 2).2)) ∧ u = undef) (by kernel_rfl) (by kernel_rfl) ?_ ?_ fun F hF g g0 hC => ?_
  · intro i k g g' W u hg hh
    rw [← hg k (Nat.le_refl _)]
    by_cases c1 : i = 1
    · rw [if_pos c1] at hh ⊢; exact hh
    rw [if_neg c1] at hh ⊢
    by_cases c3 : i = 3
    · rw [if_pos c3] at hh ⊢; exact hh
    rw [if_neg c3] at hh ⊢
    by_cases c4 : i = 4
    · rw [if_pos c4] at hh ⊢; exact ⟨fun hk => by rw [← hg 1 hk]; exact hh.1 hk, hh.2⟩
    rw [if_neg c4] at hh ⊢; exact ⟨fun hk => by rw [← hg 2 hk]; exact hh.1 hk, hh.2⟩
  · intro i k g
    by_cases c1 : i = 1
    · obtain ⟨W', A, c, y1, y2, y3⟩ := texts_mk (g k).1 (D.map S)
      exact ⟨W', _, by rw [if_pos c1]; exact ⟨A, c, rfl, y1, y2, y3⟩⟩
    by_cases c3 : i = 3
    · obtain ⟨W', A, c, y1, y2, y3⟩ := texts_mk (g k).1 (E.map S)
      exact ⟨W', _, by rw [if_neg c1, if_pos c3]; exact ⟨A, c, rfl, y1, y2, y3⟩⟩
    by_cases c4 : i = 4
    · exact ⟨_, _, by rw [if_neg c1, if_neg c3, if_pos c4]; exact ⟨fun _ => rfl, rfl⟩⟩
    · exact ⟨_, _, by rw [if_neg c1, if_neg c3, if_neg c4]; exact ⟨fun _ => rfl, rfl⟩⟩
  obtain rfl := List.mem_singleton.1 hF
  clear hF
  have e0 : ∃ A c, (g 1).2 = .agg #[.int .i64 hh, .int .i64 mi, .string ti, .int .i64 wi, .int .u64 (po : Int), .slice A D.length c, .int .i64 sa] ∧ TextsAt (g 1).1 A c (D.map S) ∧ Below (g 0).1.heap.size (g 0).1 (g 1).1 ∧ (∀ b o, A = some ⟨b, o, none⟩ → (g 0).1.heap.size ≤ b) := hC 0 (by decide)
  have e1 : ∃ A c, (g 2).2 = .agg #[.int .i64 hh', .int .i64 mi', .string ti', .int .i64 wi', .int .u64 (po' : Int), .slice A E.length c, .int .i64 sa'] ∧ TextsAt (g 2).1 A c (E.map S) ∧ Below (g 1).1.heap.size (g 1).1 (g 2).1 ∧ (∀ b o, A = some ⟨b, o, none⟩ → (g 1).1.heap.size ≤ b) := hC 1 (by decide)
  have e2 : (1 ≤ 2 → (g 3).1 = (g 2).1.setRow X (cellsOf (g 1).2)) ∧ (g 3).2 = undef := hC 2 (by decide)
  have e3 : (2 ≤ 3 → (g 4).1 = (g 3).1.setRow Y (cellsOf (g 2).2)) ∧ (g 4).2 = undef := hC 3 (by decide)
  clear hC
  obtain ⟨Ax, cx, u1, tx, k1, fx⟩ := e0
  obtain ⟨Ay, cy, u2, ty, k2, fy⟩ := e1
  obtain ⟨w3, e2⟩ := e2
  obtain ⟨w4, e3⟩ := e3
  have w3 := w3 (by omega)
  have w4 := w4 (by omega)
  rw [u1] at w3
  rw [u2] at w4
  have w3 : (g 3).1 = (g 2).1.setRow X #[.int .i64 hh, .int .i64 mi, .string ti, .int .i64 wi, .int .u64 (po : Int), .slice Ax D.length cx, .int .i64 sa] := w3
  have w4 : (g 4).1 = (g 3).1.setRow Y #[.int .i64 hh', .int .i64 mi', .string ti', .int .i64 wi', .int .u64 (po' : Int), .slice Ay E.length cy, .int .i64 sa'] := w4
  have v0 : Below w1.heap.size w1 (g 0).1 := by rw [g0]; exact (Below.refl _ _).drew
  have v1 := v0.trans (k1.mono v0.size)
  have v2 := v1.trans (k2.mono v1.size)
  have cl : ∀ s, s ≤ 2 → Below w1.heap.size w1 (g s).1 := fun s hs => by
    rcases (by omega : s = 0 ∨ s = 1 ∨ s = 2) with rfl | rfl | rfl
    · exact v0
    · exact v1
    · exact v2
  have V1 : (#[.int .i64 hh, .int .i64 mi, .string ti, .int .i64 wi, .int .u64 (po : Int), .slice Ax D.length cx, .int .i64 sa] : Array Value).all (·.oneCell') = true := by simp [Value.oneCell']
  have V2 : (#[.int .i64 hh', .int .i64 mi', .string ti', .int .i64 wi', .int .u64 (po' : Int), .slice Ay E.length cy, .int .i64 sa'] : Array Value).all (·.oneCell') = true := by simp [Value.oneCell']
  have rX := (v2.block X lX).trans r1
  have rY : (g 3).1.heap[Y]? = some (.cells #[.int .i64 h2, .int .i64 m2, .string t2, .int .i64 i2, .int .u64 (p2 : Int), .slice A2 xs2.length c2, .int .i64 s2] 25 (0, 0)) := by rw [w3, setRow_other _ _ _ _ (by omega)]; exact (v2.block Y lY).trans r2
  have sX := setRow_heap _ _ _ #[.int .i64 hh, .int .i64 mi, .string ti, .int .i64 wi, .int .u64 (po : Int), .slice Ax D.length cx, .int .i64 sa] _ _ rX
  rw [← w3] at sX
  have sY := setRow_heap _ _ _ #[.int .i64 hh', .int .i64 mi', .string ti', .int .i64 wi', .int .u64 (po' : Int), .slice Ay E.length cy, .int .i64 sa'] _ _ rY
  rw [← w4] at sY
  have sX4 : (g 4).1.heap[X]? = some (.cells #[.int .i64 hh, .int .i64 mi, .string ti, .int .i64 wi, .int .u64 (po : Int), .slice Ax D.length cx, .int .i64 sa] 25 (0, 0)) := by rw [w4, setRow_other _ _ _ _ (by omega)]; exact sX
  have z0 := v0.size
  have z1' := v1.size
  have tx4 : TextsAt (g 4).1 Ax cx (D.map S) := by rw [w4, w3]; exact ((tx.below k2).row X _ (fun b o e => by have := fx b o e; omega)).row Y _ (fun b o e => by have := fx b o e; omega)
  have ty4 : TextsAt (g 4).1 Ay cy (E.map S) := by rw [w4, w3]; exact (ty.row X _ (fun b o e => by have := fy b o e; omega)).row Y _ (fun b o e => by have := fy b o e; omega)
  have b4 : Below X w (g 4).1 := by rw [w4, w3]; exact setRow_below (setRow_below (g1.trans (v2.mono (by omega))) X _ (Nat.le_refl _)) Y _ (by omega)
  have U1 := Lib.hid u1
  have U2 := Lib.hid u2
  have W3 := Lib.hid w3
  have W4 := Lib.hid w4
  have E2 := Lib.hid e2
  have E3 := Lib.hid e3
  have G0 := Lib.hid g0
  have TX := Lib.hid tx4
  have TY := Lib.hid ty4
  clear u1 u2 w3 w4 e2 e3 g0 tx ty fx fy tx4 ty4
  refine fix5_mid (.agg #[.int .i64 h1, .int .i64 m1, .string t1, .int .i64 i1, .int .u64 (p1 : Int), .slice A1 xs1.length c1, .int .i64 s1]) 0 2 (by kernel_rfl) rfl (fun J s hl hs hJ => ?_) ?_
  · exact wp_load_row 25 (.tmp 2) rfl X (by rfl) 25 #[.int .i64 h1, .int .i64 m1, .string t1, .int .i64 i1, .int .u64 (p1 : Int), .slice A1 xs1.length c1, .int .i64 s1] (0, 0) _ (((cl s hs).block X lX).trans r1) Tryd.underlying25 rfl infoR (hJ _ rfl)
  intro J hJ
  go_simp
  refine hJ _ ?_
  clear hJ J
  refine fix5_eff 0 (.agg #[.int .i64 hh, .int .i64 mi, .string ti, .int .i64 wi, .int .u64 (po : Int), .slice Ax D.length cx, .int .i64 sa]) (U1.out) (by kernel_rfl) rfl (fun J hJ => ?_) ?_
  · go_simp
    (go_at_call 5; refine (HF1.out _ (HA1.out.below v0)).mono ?_; rintro e W1 ⟨A', c', rfl, y1, y2, y3⟩; exact hJ _ _ (by rw [if_pos rfl]; exact ⟨A', c', rfl, y1, y2, y3⟩))
  intro J hJ
  go_simp
  refine hJ _ ?_
  clear hJ J
  refine fix5_mid (.agg #[.int .i64 h2, .int .i64 m2, .string t2, .int .i64 i2, .int .u64 (p2 : Int), .slice A2 xs2.length c2, .int .i64 s2]) 0 2 (by kernel_rfl) rfl (fun J s hl hs hJ => ?_) ?_
  · exact wp_load_row 25 (.tmp 3) rfl Y (by rfl) 25 #[.int .i64 h2, .int .i64 m2, .string t2, .int .i64 i2, .int .u64 (p2 : Int), .slice A2 xs2.length c2, .int .i64 s2] (0, 0) _ (((cl s hs).block Y lY).trans r2) Tryd.underlying25 rfl infoR (hJ _ rfl)
  intro J hJ
  go_simp
  refine hJ _ ?_
  clear hJ J
  refine fix5_eff 1 (.agg #[.int .i64 hh', .int .i64 mi', .string ti', .int .i64 wi', .int .u64 (po' : Int), .slice Ay E.length cy, .int .i64 sa']) (U2.out) (by kernel_rfl) rfl (fun J hJ => ?_) ?_
  · go_simp
    (go_at_call 5; refine (HF2.out _ (HA2.out.below v1)).mono ?_; rintro e W1 ⟨A', c', rfl, y1, y2, y3⟩; exact hJ _ _ (by rw [if_neg (by omega), if_pos rfl]; exact ⟨A', c', rfl, y1, y2, y3⟩))
  intro J hJ
  go_simp
  refine hJ _ ?_
  clear hJ J
  refine fix5_eff 2 (undef) (E2.out) (by kernel_rfl) rfl (fun J hJ => ?_) ?_
  · (exact wp_store_row 25 (.tmp 2) (.tmp 11) rfl X #[.int .i64 hh, .int .i64 mi, .string ti, .int .i64 wi, .int .u64 (po : Int), .slice Ax D.length cx, .int .i64 sa] _ _ (by rfl) (by rfl) rX infoR rfl V1 (hJ _ _ (by rw [if_neg (by omega), if_neg (by omega), if_pos rfl]; exact ⟨fun _ => by rw [U1.out]; rfl, rfl⟩)))
  intro J hJ
  go_simp
  refine hJ _ ?_
  clear hJ J
  refine fix5_eff 3 (undef) (E3.out) (by kernel_rfl) rfl (fun J hJ => ?_) ?_
  · (exact wp_store_row 25 (.tmp 3) (.tmp 13) rfl Y #[.int .i64 hh', .int .i64 mi', .string ti', .int .i64 wi', .int .u64 (po' : Int), .slice Ay E.length cy, .int .i64 sa'] _ _ (by rfl) (by rfl) rY infoR rfl V2 (hJ _ _ (by rw [if_neg (by omega), if_neg (by omega), if_neg (by omega)]; exact ⟨fun _ => by rw [U2.out]; rfl, rfl⟩)))
  intro J hJ
  go_simp
  refine hJ _ ?_
  clear hJ J
  refine fix5_nil ?_
  obtain ⟨wy, hwy⟩ : ∃ wy, wy = (g [1, 3, 4, 5].length).1 := ⟨_, rfl⟩
  rw [← hwy]
  replace sX4 := (hwy ▸ sX4 : wy.heap[X]? = some (.cells #[.int .i64 hh, .int .i64 mi, .string ti, .int .i64 wi, .int .u64 (po : Int), .slice Ax D.length cx, .int .i64 sa] 25 (0, 0)))
  replace sY := (hwy ▸ sY : wy.heap[Y]? = some (.cells #[.int .i64 hh', .int .i64 mi', .string ti', .int .i64 wi', .int .u64 (po' : Int), .slice Ay E.length cy, .int .i64 sa'] 25 (0, 0)))
  replace TX : Hid (TextsAt wy Ax cx (D.map S)) := hwy ▸ TX
  replace TY : Hid (TextsAt wy Ay cy (E.map S)) := hwy ▸ TY
  replace b4 : Below X w wy := hwy ▸ b4
  clear hwy U1 U2 W3 W4 E2 E3 G0 cl v0 v1 v2 k1 k2 rX rY sX z0 z1' HA1 HA2 HL1 r1 r2 HF1 HF2 V1 V2
  have lX2 := (Array.getElem?_eq_some_iff.1 sX4).1
  have lY2 := (Array.getElem?_eq_some_iff.1 sY).1
  by_cases hz1 : z1 = 0
  rotate_left
  · have hzb : (z1 == 0) = false := beq_eq_false_iff_ne.2 hz1
    go_wp2_with (first
      | (refine wpList_load_row (by rfl) 25 (.tmp 2) (by rfl) X (by rfl) 25 #[.int .i64 hh, .int .i64 mi, .string ti, .int .i64 wi, .int .u64 (po : Int), .slice Ax D.length cx, .int .i64 sa] (0, 0) _ sX4 Tryd.underlying25 rfl infoR ?_)
      | (go_at_call 6; ((with_reducible refine (HCK1.out _ _ _ TX.out).mono ?_); rintro e w5 ⟨rfl, f5⟩; have sY5 := (f5.block Y lY2).trans sY; have TY5 := Lib.hid (TY.out.below f5))))
    go_ret
    exact ⟨rfl, by rw [EX.out]; exact b4.trans (f5.mono (by omega))⟩
  subst hz1
  by_cases hz2 : z2 = 0
  rotate_left
  · have hzb : (z2 == 0) = false := beq_eq_false_iff_ne.2 hz2
    go_wp2_with (first
      | (refine wpList_load_row (by rfl) 25 (.tmp 2) (by rfl) X (by rfl) 25 #[.int .i64 hh, .int .i64 mi, .string ti, .int .i64 wi, .int .u64 (po : Int), .slice Ax D.length cx, .int .i64 sa] (0, 0) _ sX4 Tryd.underlying25 rfl infoR ?_)
      | (go_at_call 6; ((with_reducible refine (HCK1.out _ _ _ TX.out).mono ?_); rintro e w5 ⟨rfl, f5⟩; have sY5 := (f5.block Y lY2).trans sY; have TY5 := Lib.hid (TY.out.below f5)))
      | (refine load_row_when (by rfl) 25 (.tmp 3) (by rfl) Y (by rfl) 25 #[.int .i64 hh', .int .i64 mi', .string ti', .int .i64 wi', .int .u64 (po' : Int), .slice Ay E.length cy, .int .i64 sa'] (0, 0) _ sY5 Tryd.underlying25 rfl infoR ?_)
      | (go_at_call 6; ((with_reducible refine (HCK2.out _ _ _ TY5.out).mono ?_); rintro e w6 ⟨rfl, f6⟩)))
    go_ret
    exact ⟨rfl, by rw [EX.out]; exact (b4.trans (f5.mono (by omega))).trans (f6.mono (by have := f5.size; omega))⟩
  subst hz2
  go_upto_region 6 with (first
    | (refine wpList_load_row (by rfl) 25 (.tmp 2) (by rfl) X (by rfl) 25 #[.int .i64 hh, .int .i64 mi, .string ti, .int .i64 wi, .int .u64 (po : Int), .slice Ax D.length cx, .int .i64 sa] (0, 0) _ sX4 Tryd.underlying25 rfl infoR ?_)
    | (go_at_call 6; ((with_reducible refine (HCK1.out _ _ _ TX.out).mono ?_); rintro e w5 ⟨rfl, f5⟩; have sY5 := (f5.block Y lY2).trans sY; have TY5 := Lib.hid (TY.out.below f5)))
    | (refine load_row_when (by rfl) 25 (.tmp 3) (by rfl) Y (by rfl) 25 #[.int .i64 hh', .int .i64 mi', .string ti', .int .i64 wi', .int .u64 (po' : Int), .slice Ay E.length cy, .int .i64 sa'] (0, 0) _ sY5 Tryd.underlying25 rfl infoR ?_)
    | (go_at_call 6; ((with_reducible refine (HCK2.out _ _ _ TY5.out).mono ?_); rintro e w6 ⟨rfl, f6⟩)))
  have k6 := f5.trans (f6.mono f5.size)
  have x6 := (k6.block X lX2).trans sX4
  have y6 := (k6.block Y lY2).trans sY
  have TX6 := Lib.hid (TX.out.below k6)
  have TY6 := Lib.hid (TY.out.below k6)
  have b6 := b4.trans (k6.mono (by omega))
  have lX6 := (Array.getElem?_eq_some_iff.1 x6).1
  have lY6 := (Array.getElem?_eq_some_iff.1 y6).1
  clear k6 f5 f6 sY5 TY5 sX4 sY TX TY b4 lX2 lY2
  have cl : ∀ v, Below w6.heap.size w6 v → v.heap[X]? = some (.cells #[.int .i64 hh, .int .i64 mi, .string ti, .int .i64 wi, .int .u64 (po : Int), .slice Ax D.length cx, .int .i64 sa] 25 (0, 0)) ∧ v.heap[Y]? = some (.cells #[.int .i64 hh', .int .i64 mi', .string ti', .int .i64 wi', .int .u64 (po' : Int), .slice Ay E.length cy, .int .i64 sa'] 25 (0, 0)) := fun v h => ⟨(h.block X lX6).trans x6, (h.block Y lY6).trans y6⟩
  have CL := Lib.hid cl
  clear cl
  refine region_fix6 es6 [1, 3, 4, 5, 6, 7] rfl (fun i k g W' u => u.1 = i ∧ (if i = 1 then ∃ A c, u.2 = .agg #[.int .i64 hh, .int .i64 mi, .string ti, .int .i64 wi, .int .u64 (po : Int), .slice A D.length c, .int .i64 sa] ∧ IdsAt W' A D ∧ Below (g k).1.heap.size (g k).1 W' ∧ (∀ b o, A = some ⟨b, o, none⟩ → (g k).1.heap.size ≤ b ∧ b < W'.heap.size) else if i = 3 then ∃ A c, u.2 = .agg #[.int .i64 hh', .int .i64 mi', .string ti', .int .i64 wi', .int .u64 (po' : Int), .slice A E.length c, .int .i64 sa'] ∧ IdsAt W' A E ∧ Below (g k).1.heap.size (g k).1 W' ∧ (∀ b o, A = some ⟨b, o, none⟩ → (g k).1.heap.size ≤ b ∧ b < W'.heap.size) else if i = 4 ∨ i = 5 then W' = (g k).1.alloc (.cells #[.int .i64 0, .int .i64 0, .string ⟨#[]⟩, .int .i64 0, .int .u64 0, .slice none 0 0, .int .i64 0] 31) ∧ u.2 = .pointer (some ⟨(g k).1.heap.size, 0, none⟩) else if i = 6 then W' = (g k).1.setRow (blkOf (valOf g k 4)) (cellsOf (valOf g k 1)) ∧ u.2 = undef else W' = (g k).1.setRow (blkOf (valOf g k 5)) (cellsOf (valOf g k 3)) ∧ u.2 = undef)) (by kernel_rfl) (by kernel_rfl) ?_ ?_ fun F hF g g0 hC => ?_
  · intro i k g g' W u hg hh
    refine ⟨hh.1, ?_⟩
    replace hh := hh.2
    have v1 := fun n => valOf_congr (i := n) hg
    rw [← hg k (Nat.le_refl _), ← v1 4, ← v1 1, ← v1 5, ← v1 3]
    exact hh
  · intro i k g
    by_cases c1 : i = 1
    · obtain ⟨W', A, y1, y2, y3⟩ := ids_mk (g k).1 D p32
      exact ⟨W', (i, _), rfl, by rw [if_pos c1]; exact ⟨A, 0, rfl, y1, y2, y3⟩⟩
    by_cases c3 : i = 3
    · obtain ⟨W', A, y1, y2, y3⟩ := ids_mk (g k).1 E q32
      exact ⟨W', (i, _), rfl, by rw [if_neg c1, if_pos c3]; exact ⟨A, 0, rfl, y1, y2, y3⟩⟩
    by_cases c4 : i = 4 ∨ i = 5
    · exact ⟨_, (i, _), rfl, by rw [if_neg c1, if_neg c3, if_pos c4]; exact ⟨rfl, rfl⟩⟩
    by_cases c6 : i = 6
    · exact ⟨_, (i, _), rfl, by rw [if_neg c1, if_neg c3, if_neg c4, if_pos c6]; exact ⟨rfl, rfl⟩⟩
    · exact ⟨_, (i, _), rfl, by rw [if_neg c1, if_neg c3, if_neg c4, if_neg c6]; exact ⟨rfl, rfl⟩⟩
  obtain ⟨k1, k3, k4, k5, O⟩ := order6 hF
  have lt13 := O.lt13
  have lt3 := O.lt3
  have lt4 := O.lt4
  have lt5 := O.lt5
  have lne := O.ne
  have d1 : F.getD k1 0 = 1 := (O.at_ k1 (by omega) 1 (by omega)).2 O.i1.symm
  have d3 : F.getD k3 0 = 3 := (O.at_ k3 (by omega) 3 (by omega)).2 O.i3.symm
  have d4 : F.getD k4 0 = 4 := (O.at_ k4 (by omega) 4 (by omega)).2 O.i4.symm
  have d5 : F.getD k5 0 = 5 := (O.at_ k5 (by omega) 5 (by omega)).2 O.i5.symm
  have d6 : F.getD 4 0 = 6 := (O.at_ 4 (by omega) 6 (by omega)).2 O.i6.symm
  have d7 : F.getD 5 0 = 7 := (O.at_ 5 (by omega) 7 (by omega)).2 O.i7.symm
  have n14 : k1 ≠ k4 := fun e => by rw [e, d4] at d1; omega
  have n15 : k1 ≠ k5 := fun e => by rw [e, d5] at d1; omega
  have n34 : k3 ≠ k4 := fun e => by rw [e, d4] at d3; omega
  have n35 : k3 ≠ k5 := fun e => by rw [e, d5] at d3; omega
  have hlen : F.length = 6 := O.len
  have tag : ∀ j, j < 6 → (g (j + 1)).2.1 = F.getD j 0 := fun j hj => (hC j (by omega)).1
  have vv : ∀ k p i, p < k → k ≤ 6 → F.getD p 0 = i → (i = 1 ∨ i = 3 ∨ i = 4 ∨ i = 5 ∨ i = 6 ∨ i = 7) → valOf g k i = (g (p + 1)).2.2 := fun k p i hp hk hi hm => valOf_at hp ((tag p (by omega)).trans hi) fun j hj hne e => hne (by
    rw [tag j (by omega)] at e
    exact ((O.at_ j (by omega) i hm).1 e).trans ((O.at_ p (by omega) i hm).1 hi).symm)
  have e1 := (hC k1 (by omega)).2
  have e3 := (hC k3 (by omega)).2
  have e4 := (hC k4 (by omega)).2
  have e5 := (hC k5 (by omega)).2
  have e6 := (hC 4 (by omega)).2
  have e7 := (hC 5 (by omega)).2
  rw [d1, if_pos rfl] at e1
  rw [d3, if_neg (by omega), if_pos rfl] at e3
  rw [d4, if_neg (by omega), if_neg (by omega), if_pos (.inl rfl)] at e4
  rw [d5, if_neg (by omega), if_neg (by omega), if_pos (.inr rfl)] at e5
  rw [d6, if_neg (by omega), if_neg (by omega), if_neg (by omega), if_pos rfl] at e6
  rw [d7, if_neg (by omega), if_neg (by omega), if_neg (by omega), if_neg (by omega)] at e7
  have st : ∀ j, j < 4 → Below (g j).1.heap.size (g j).1 (g (j + 1)).1 := fun j hj => by
    have h := (hC j (by omega)).2
    rcases O.low j hj with d | d | d | d
    · rw [d, if_pos rfl] at h; obtain ⟨_, _, _, _, h, _⟩ := h; exact h
    · rw [d, if_neg (by omega), if_pos rfl] at h; obtain ⟨_, _, _, _, h, _⟩ := h; exact h
    · rw [d, if_neg (by omega), if_neg (by omega), if_pos (.inl rfl)] at h; rw [h.1]; exact (Below.refl _ _).alloc (Nat.le_refl _) _
    · rw [d, if_neg (by omega), if_neg (by omega), if_pos (.inr rfl)] at h; rw [h.1]; exact (Below.refl _ _).alloc (Nat.le_refl _) _
  have up : ∀ n s, s + n ≤ 4 → Below (g s).1.heap.size (g s).1 (g (s + n)).1 := fun n => by
    induction n with
    | zero => exact fun s _ => Below.refl _ _
    | succ n ih => exact fun s hs => (ih s (by omega)).trans ((st (s + n) (by omega)).mono (ih s (by omega)).size)
  have upto : ∀ s t, s ≤ t → t ≤ 4 → Below (g s).1.heap.size (g s).1 (g t).1 := fun s t hs ht => by
    have := up (t - s) s (by omega)
    rwa [show s + (t - s) = t by omega] at this
  have v : ∀ s, s ≤ 4 → Below w6.heap.size w6 (g s).1 := fun s hs => by
    have h0 : Below w6.heap.size w6 (g 0).1 := by rw [g0]; exact (Below.refl _ _).drew
    exact h0.trans ((upto 0 s (Nat.zero_le _) hs).mono h0.size)
  have K1 := Lib.hid O.i1
  have K3 := Lib.hid O.i3
  have K4 := Lib.hid O.i4
  have K5 := Lib.hid O.i5
  have K6 := Lib.hid O.i6
  have K7 := Lib.hid O.i7
  clear hC st up O tag g0
  obtain ⟨Aa, ca, u1, ia, _, fa⟩ := e1
  obtain ⟨Ab, cb, u3, ib, _, fb⟩ := e3
  obtain ⟨w4, u4⟩ := e4
  obtain ⟨w5, u5⟩ := e5
  obtain ⟨w6', u6⟩ := e6
  obtain ⟨w7', u7⟩ := e7
  rw [vv 4 k4 4 (by omega) (by omega) d4 (by omega), vv 4 k1 1 (by omega) (by omega) d1 (by omega), u4, u1] at w6'
  rw [vv 5 k5 5 (by omega) (by omega) d5 (by omega), vv 5 k3 3 (by omega) (by omega) d3 (by omega), u5, u3] at w7'
  have z4 : (g (k4 + 1)).1.heap.size = (g k4).1.heap.size + 1 := by rw [w4]; simp
  have z5 : (g (k5 + 1)).1.heap.size = (g k5).1.heap.size + 1 := by rw [w5]; simp
  have n4 : (g (k4 + 1)).1.heap[(g k4).1.heap.size]? = some (.cells #[.int .i64 0, .int .i64 0, .string ⟨#[]⟩, .int .i64 0, .int .u64 0, .slice none 0 0, .int .i64 0] 31 (0, 0)) := by rw [w4]; exact heap_alloc_new _ _
  have n5 : (g (k5 + 1)).1.heap[(g k5).1.heap.size]? = some (.cells #[.int .i64 0, .int .i64 0, .string ⟨#[]⟩, .int .i64 0, .int .u64 0, .slice none 0 0, .int .i64 0] 31 (0, 0)) := by rw [w5]; exact heap_alloc_new _ _
  obtain ⟨pa, epa⟩ : ∃ pa, (g k4).1.heap.size = pa := ⟨_, rfl⟩
  obtain ⟨pb, epb⟩ : ∃ pb, (g k5).1.heap.size = pb := ⟨_, rfl⟩
  have sz : ∀ s t, s ≤ t → t ≤ 4 → (g s).1.heap.size ≤ (g t).1.heap.size := fun s t h1 h2 => (upto s t h1 h2).size
  have s0 := (v k1 (by omega)).size
  have s1' := (v k3 (by omega)).size
  have s4' := (v k4 (by omega)).size
  have s5' := (v k5 (by omega)).size
  have pne : pa ≠ pb := by
    rcases Nat.lt_or_gt_of_ne lne with h | h
    · have := sz (k4 + 1) k5 (by omega) (by omega); omega
    · have := sz (k5 + 1) k4 (by omega) (by omega); omega
  have fa4 : ∀ b o, Aa = some ⟨b, o, none⟩ → b ≠ pa ∧ b ≠ pb ∧ Y < b := fun b o e => by
    have h := fa b o e
    refine ⟨?_, ?_, by omega⟩
    · rcases Nat.lt_or_gt_of_ne n14 with h1 | h1
      · have := sz (k1 + 1) k4 (by omega) (by omega); omega
      · have := sz (k4 + 1) k1 (by omega) (by omega); omega
    · rcases Nat.lt_or_gt_of_ne n15 with h1 | h1
      · have := sz (k1 + 1) k5 (by omega) (by omega); omega
      · have := sz (k5 + 1) k1 (by omega) (by omega); omega
  have fb4 : ∀ b o, Ab = some ⟨b, o, none⟩ → b ≠ pa ∧ b ≠ pb ∧ Y < b := fun b o e => by
    have h := fb b o e
    refine ⟨?_, ?_, by omega⟩
    · rcases Nat.lt_or_gt_of_ne n34 with h1 | h1
      · have := sz (k3 + 1) k4 (by omega) (by omega); omega
      · have := sz (k4 + 1) k3 (by omega) (by omega); omega
    · rcases Nat.lt_or_gt_of_ne n35 with h1 | h1
      · have := sz (k3 + 1) k5 (by omega) (by omega); omega
      · have := sz (k5 + 1) k3 (by omega) (by omega); omega
  rw [epa] at n4 u4 w6' z4
  rw [epb] at n5 u5 w7' z5
  have m4 := ((upto (k4 + 1) 4 (by omega) (by omega)).block pa (by omega)).trans n4
  have m5 := ((upto (k5 + 1) 4 (by omega) (by omega)).block pb (by omega)).trans n5
  replace w6' : (g 5).1 = (g 4).1.setRow pa #[.int .i64 hh, .int .i64 mi, .string ti, .int .i64 wi, .int .u64 (po : Int), .slice Aa D.length ca, .int .i64 sa] := w6'
  replace w7' : (g 6).1 = (g 5).1.setRow pb #[.int .i64 hh', .int .i64 mi', .string ti', .int .i64 wi', .int .u64 (po' : Int), .slice Ab E.length cb, .int .i64 sa'] := w7'
  have V1 : (#[.int .i64 hh, .int .i64 mi, .string ti, .int .i64 wi, .int .u64 (po : Int), .slice Aa D.length ca, .int .i64 sa] : Array Value).all (·.oneCell') = true := by simp [Value.oneCell']
  have V2 : (#[.int .i64 hh', .int .i64 mi', .string ti', .int .i64 wi', .int .u64 (po' : Int), .slice Ab E.length cb, .int .i64 sa'] : Array Value).all (·.oneCell') = true := by simp [Value.oneCell']
  have m5' : (g 5).1.heap[pb]? = some (.cells #[.int .i64 0, .int .i64 0, .string ⟨#[]⟩, .int .i64 0, .int .u64 0, .slice none 0 0, .int .i64 0] 31 (0, 0)) := by rw [w6', setRow_other _ _ _ _ (by omega)]; exact m5
  have ra := setRow_heap _ _ _ #[.int .i64 hh, .int .i64 mi, .string ti, .int .i64 wi, .int .u64 (po : Int), .slice Aa D.length ca, .int .i64 sa] _ _ m4
  rw [← w6'] at ra
  have rb := setRow_heap _ _ _ #[.int .i64 hh', .int .i64 mi', .string ti', .int .i64 wi', .int .u64 (po' : Int), .slice Ab E.length cb, .int .i64 sa'] _ _ m5'
  rw [← w7'] at rb
  have ra6 : (g 6).1.heap[pa]? = some (.cells #[.int .i64 hh, .int .i64 mi, .string ti, .int .i64 wi, .int .u64 (po : Int), .slice Aa D.length ca, .int .i64 sa] 31 (0, 0)) := by rw [w7', setRow_other _ _ _ _ (by omega)]; exact ra
  have ia4 := ia.below (upto (k1 + 1) 4 (by omega) (by omega))
  have ib4 := ib.below (upto (k3 + 1) 4 (by omega) (by omega))
  have ia6 : IdsAt (g 6).1 Aa D := by rw [w7', w6']; exact (ia4.row pa _ (fun b o e => (fa4 b o e).1)).row pb _ (fun b o e => (fa4 b o e).2.1)
  have ib6 : IdsAt (g 6).1 Ab E := by rw [w7', w6']; exact (ib4.row pa _ (fun b o e => (fb4 b o e).1)).row pb _ (fun b o e => (fb4 b o e).2.1)
  have b46 : Below w6.heap.size w6 (g 6).1 := by rw [w7', w6']; exact setRow_below (setRow_below (v 4 (by omega)) pa _ (by omega)) pb _ (by omega)
  have y66 := (CL.out _ b46).2
  have TY66 := Lib.hid (TY6.out.below b46)
  have b66 := b6.trans (b46.mono (by omega))
  have U1 := Lib.hid u1
  have U3 := Lib.hid u3
  have U4 := Lib.hid u4
  have U5 := Lib.hid u5
  have U6 := Lib.hid u6
  have U7 := Lib.hid u7
  have VV := Lib.hid vv
  have D1 := Lib.hid d1
  have D3 := Lib.hid d3
  have D4 := Lib.hid d4
  have D5 := Lib.hid d5
  have W6 := Lib.hid w6'
  have W7 := Lib.hid w7'
  have HN := Lib.hid hlen
  have EA := Lib.hid epa
  have EB := Lib.hid epb
  have IA := Lib.hid ia6
  have IB := Lib.hid ib6
  clear u1 u3 u4 u5 u6 u7 vv d1 d3 d4 d5 d6 d7 w6' w7' hlen epa epb ia ib ia4 ib4 ia6 ib6 fa fb w4 w5 z4 z5 n4 n5
  refine fix6x_mid hF (.agg #[.int .i64 hh, .int .i64 mi, .string ti, .int .i64 wi, .int .u64 (po : Int), .slice Ax D.length cx, .int .i64 sa]) 0 4 (by kernel_rfl) rfl (fun J s hl hs hJ => ?_) ?_
  · exact wp_load_row 25 (.tmp 2) rfl X (by rfl) 25 #[.int .i64 hh, .int .i64 mi, .string ti, .int .i64 wi, .int .u64 (po : Int), .slice Ax D.length cx, .int .i64 sa] (0, 0) _ (CL.out _ (v s hs)).1 Tryd.underlying25 rfl infoR (hJ _ rfl)
  intro J hJ
  go_simp
  refine hJ _ ?_
  clear hJ J
  refine fix6x_eff k1 (.agg #[.int .i64 hh, .int .i64 mi, .string ti, .int .i64 wi, .int .u64 (po : Int), .slice Aa D.length ca, .int .i64 sa]) (U1.out) (order6m hF 1 (by omega)) (K1.out) rfl (fun J hJ => ?_) ?_
  · go_simp
    go_at_call 7
    refine (HO1.out _ _ _ (TX6.out.below (v k1 (by omega)))).mono ?_
    rintro e W1 ⟨A', c', rfl, y1, y2, y3⟩
    exact hJ _ (1, _) ⟨rfl, by rw [if_pos rfl]; exact ⟨A', c', rfl, y1, y2, y3⟩⟩
  intro J hJ
  go_simp
  refine hJ _ ?_
  clear hJ J
  refine fix6x_mid hF (.agg #[.int .i64 hh', .int .i64 mi', .string ti', .int .i64 wi', .int .u64 (po' : Int), .slice Ay E.length cy, .int .i64 sa']) 0 4 (by kernel_rfl) rfl (fun J s hl hs hJ => ?_) ?_
  · exact wp_load_row 25 (.tmp 3) rfl Y (by rfl) 25 #[.int .i64 hh', .int .i64 mi', .string ti', .int .i64 wi', .int .u64 (po' : Int), .slice Ay E.length cy, .int .i64 sa'] (0, 0) _ (CL.out _ (v s hs)).2 Tryd.underlying25 rfl infoR (hJ _ rfl)
  intro J hJ
  go_simp
  refine hJ _ ?_
  clear hJ J
  refine fix6x_eff k3 (.agg #[.int .i64 hh', .int .i64 mi', .string ti', .int .i64 wi', .int .u64 (po' : Int), .slice Ab E.length cb, .int .i64 sa']) (U3.out) (order6m hF 3 (by omega)) (K3.out) rfl (fun J hJ => ?_) ?_
  · go_simp
    go_at_call 7
    refine (HO2.out _ _ _ (TY6.out.below (v k3 (by omega)))).mono ?_
    rintro e W1 ⟨A', c', rfl, y1, y2, y3⟩
    exact hJ _ (3, _) ⟨rfl, by rw [if_neg (by omega), if_pos rfl]; exact ⟨A', c', rfl, y1, y2, y3⟩⟩
  intro J hJ
  go_simp
  refine hJ _ ?_
  clear hJ J
  refine fix6x_eff k4 (.pointer (some ⟨pa, 0, none⟩)) (U4.out) (order6m hF 4 (by omega)) (K4.out) rfl (fun J hJ => ?_) ?_
  · go_simp
    exact hJ _ (4, .pointer (some ⟨(g k4).1.heap.size, 0, none⟩)) ⟨rfl, by rw [if_neg (by omega), if_neg (by omega), if_pos (.inl rfl)]; exact ⟨rfl, rfl⟩⟩
  intro J hJ
  go_simp
  refine hJ _ ?_
  clear hJ J
  refine fix6x_eff k5 (.pointer (some ⟨pb, 0, none⟩)) (U5.out) (order6m hF 5 (by omega)) (K5.out) rfl (fun J hJ => ?_) ?_
  · go_simp
    exact hJ _ (5, .pointer (some ⟨(g k5).1.heap.size, 0, none⟩)) ⟨rfl, by rw [if_neg (by omega), if_neg (by omega), if_pos (.inr rfl)]; exact ⟨rfl, rfl⟩⟩
  intro J hJ
  go_simp
  refine hJ _ ?_
  clear hJ J
  refine fix6x_eff 4 (undef) (U6.out) (order6m hF 6 (by omega)) (K6.out) rfl (fun J hJ => ?_) ?_
  · exact wp_store_row 31 (.tmp 5) (.tmp 23) rfl pa #[.int .i64 hh, .int .i64 mi, .string ti, .int .i64 wi, .int .u64 (po : Int), .slice Aa D.length ca, .int .i64 sa] _ _ (by rfl) (by rfl) m4 infoH rfl V1 (hJ _ (6, undef) ⟨rfl, by rw [if_neg (by omega), if_neg (by omega), if_neg (by omega), if_pos rfl, VV.out 4 k4 4 (by omega) (by omega) D4.out (by omega), VV.out 4 k1 1 (by omega) (by omega) D1.out (by omega), U4.out, U1.out]; exact ⟨rfl, rfl⟩⟩)
  intro J hJ
  go_simp
  refine hJ _ ?_
  clear hJ J
  refine fix6x_eff 5 (undef) (U7.out) (order6m hF 7 (by omega)) (K7.out) rfl (fun J hJ => ?_) ?_
  · exact wp_store_row 31 (.tmp 6) (.tmp 25) rfl pb #[.int .i64 hh', .int .i64 mi', .string ti', .int .i64 wi', .int .u64 (po' : Int), .slice Ab E.length cb, .int .i64 sa'] _ _ (by rfl) (by rfl) m5' infoH rfl V2 (hJ _ (7, undef) ⟨rfl, by rw [if_neg (by omega), if_neg (by omega), if_neg (by omega), if_neg (by omega), VV.out 5 k5 5 (by omega) (by omega) D5.out (by omega), VV.out 5 k3 3 (by omega) (by omega) D3.out (by omega), U5.out, U3.out]; exact ⟨rfl, rfl⟩⟩)
  intro J hJ
  go_simp
  refine hJ _ ?_
  clear hJ J
  refine fix6_nil ?_
  rw [HN.out]
  obtain ⟨wz, hwz⟩ : ∃ wz, wz = (g 6).1 := ⟨_, rfl⟩
  rw [← hwz]
  replace ra6 := (hwz ▸ ra6 : wz.heap[pa]? = some (.cells #[.int .i64 hh, .int .i64 mi, .string ti, .int .i64 wi, .int .u64 (po : Int), .slice Aa D.length ca, .int .i64 sa] 31 (0, 0)))
  replace rb := (hwz ▸ rb : wz.heap[pb]? = some (.cells #[.int .i64 hh', .int .i64 mi', .string ti', .int .i64 wi', .int .u64 (po' : Int), .slice Ab E.length cb, .int .i64 sa'] 31 (0, 0)))
  replace IA : Hid (IdsAt wz Aa D) := hwz ▸ IA
  replace IB : Hid (IdsAt wz Ab E) := hwz ▸ IB
  replace y66 := (hwz ▸ y66 : wz.heap[Y]? = some (.cells #[.int .i64 hh', .int .i64 mi', .string ti', .int .i64 wi', .int .u64 (po' : Int), .slice Ay E.length cy, .int .i64 sa'] 25 (0, 0)))
  replace TY66 : Hid (TextsAt wz Ay cy (E.map S)) := hwz ▸ TY66
  replace b66 : Below X w wz := hwz ▸ b66
  clear hwz U1 U3 U4 U5 U6 U7 VV D1 D3 D4 D5 W6 W7 HN EA EB ra m4 m5 m5' CL TX6 TY6 b46 b6 x6 y6 fa4 fb4 s0 s1' s4' s5' sz v upto V1 V2 K1 K3 K4 K5 K6 K7 hF
  have lpa := (Array.getElem?_eq_some_iff.1 ra6).1
  have lpb := (Array.getElem?_eq_some_iff.1 rb).1
  go_upto_region 8 with (first
    | (refine wpList_load_row (by rfl) 31 (.tmp 5) (by rfl) pa (by rfl) 31 #[.int .i64 hh, .int .i64 mi, .string ti, .int .i64 wi, .int .u64 (po : Int), .slice Aa D.length ca, .int .i64 sa] (0, 0) _ ra6 Tryd.underlying31 rfl infoH ?_)
    | (refine wpList_load_row (by rfl) 25 (.tmp 3) (by rfl) Y (by rfl) 25 #[.int .i64 hh', .int .i64 mi', .string ti', .int .i64 wi', .int .u64 (po' : Int), .slice Ay E.length cy, .int .i64 sa'] (0, 0) _ y66 Tryd.underlying25 rfl infoR ?_)
    | (go_at_call 8; ((with_reducible refine (HSA.out _ _ _ _ _ IA.out TY66.out).mono ?_); rintro e w8 ⟨rfl, f8⟩)))
  have ra8 := (f8.block pa lpa).trans ra6
  have rb8 := (f8.block pb lpb).trans rb
  have IA8 := Lib.hid (IA.out.below f8)
  have IB8 := Lib.hid (IB.out.below f8)
  have lYz := (Array.getElem?_eq_some_iff.1 y66).1
  have b8 := b66.trans (f8.mono (by omega))
  have HL8 := Lib.hid (HLD.out.below b8 h2s)
  have h28 : 2 ≤ w8.heap.size := by have := b8.size; have := HLD.out.size; omega
  have lpa8 := (Array.getElem?_eq_some_iff.1 ra8).1
  have lpb8 := (Array.getElem?_eq_some_iff.1 rb8).1
  clear f8 ra6 rb IA IB y66 TY66 b66 lpa lpb HSA HO1 HO2 HCK1 HCK2 HAW
  have HBI1 := Lib.hid (HB1.out trivial)
  have HBI2 := Lib.hid (HB2.out trivial)
  have HID1 := Lib.hid (HI1.out trivial)
  have HID2 := Lib.hid (HI2.out trivial)
  have HBB := Lib.hid (HBY.out trivial trivial)
  have hX8 : X ≤ w8.heap.size := by have := b8.size; rw [EX.out] at this; exact this
  clear HB1 HB2 HI1 HI2 HBY
  cases q
  · have hbf : b = false := by
      cases b
      · rfl
      · exact absurd (HQB.out rfl) (by simp)
    subst hbf
    refine region_fix3 [1, 3, 7, 9, 11, 13] (fun k _ _ => if k = 0 then .string sb1 else if k = 1 then .string sb2 else if k = 2 then .bool true else if k = 3 then .agg X1 else if k = 4 then .agg X2 else .bool false) (fun _ W W' => Below W.heap.size W W') (by kernel_rfl) (by kernel_rfl) (fun _ W => ⟨W, Below.refl _ _⟩) fun g g0 hG => ?_
    have hw : ∀ j : Nat, j ≤ 6 → Below w8.heap.size w8 (g j) := fun j => by
      induction j with
      | zero => intro _; rw [g0]; exact (Below.refl _ _).drew
      | succ j ih =>
        intro hj
        have a := ih (by omega)
        exact a.trans ((hG j (by simp; omega)).mono a.size)
    clear hG
    have G0 := Lib.hid g0
    clear g0
    refine fix3_mid (.agg #[.int .i64 hh, .int .i64 mi, .string ti, .int .i64 wi, .int .u64 (po : Int), .slice Aa D.length ca, .int .i64 sa]) 0 6 (by kernel_rfl) rfl (fun J s hl hs hJ => ?_) ?_
    · exact wp_load_row 31 (.tmp 5) rfl pa (by rfl) 31 #[.int .i64 hh, .int .i64 mi, .string ti, .int .i64 wi, .int .u64 (po : Int), .slice Aa D.length ca, .int .i64 sa] (0, 0) _ (((hw s hs).block pa lpa8).trans ra8) Tryd.underlying31 rfl infoH (hJ _ rfl)
    intro J hJ
    go_simp
    refine hJ _ ?_
    clear hJ J
    refine fix3_eff 0 (.string sb1) (rfl) (by kernel_rfl) rfl (fun J hJ => ?_) ?_
    · go_simp
      (go_at_call 9; refine (HBI1.out _ _ _ (IA8.out.below (hw 0 (by omega)))).mono ?_; rintro e W1 ⟨rfl, y⟩; exact hJ _ y)
    intro J hJ
    go_simp
    refine hJ _ ?_
    clear hJ J
    refine fix3_mid (.agg #[.int .i64 hh', .int .i64 mi', .string ti', .int .i64 wi', .int .u64 (po' : Int), .slice Ab E.length cb, .int .i64 sa']) 0 6 (by kernel_rfl) rfl (fun J s hl hs hJ => ?_) ?_
    · exact wp_load_row 31 (.tmp 6) rfl pb (by rfl) 31 #[.int .i64 hh', .int .i64 mi', .string ti', .int .i64 wi', .int .u64 (po' : Int), .slice Ab E.length cb, .int .i64 sa'] (0, 0) _ (((hw s hs).block pb lpb8).trans rb8) Tryd.underlying31 rfl infoH (hJ _ rfl)
    intro J hJ
    go_simp
    refine hJ _ ?_
    clear hJ J
    refine fix3_eff 1 (.string sb2) (rfl) (by kernel_rfl) rfl (fun J hJ => ?_) ?_
    · go_simp
      (go_at_call 9; refine (HBI2.out _ _ _ (IB8.out.below (hw 1 (by omega)))).mono ?_; rintro e W1 ⟨rfl, y⟩; exact hJ _ y)
    intro J hJ
    go_simp
    refine hJ _ ?_
    clear hJ J
    refine fix3_mid (.bool false) 0 6 (by kernel_rfl) rfl (fun J s hl hs hJ => ?_) ?_
    · have hb1 := HBB.out.1; have hb2 := HBB.out.2
      go_simp
      exact hJ _ rfl
    intro J hJ
    go_simp
    refine hJ _ ?_
    clear hJ J
    refine fix3_step ?_ (by kernel_rfl) rfl (fun J s _ _ hJ => ?_) ?_
    rotate_left
    · go_simp
      exact hJ _ rfl
    intro J hJ
    go_simp
    refine hJ _ ?_
    clear hJ J
    refine fix3_step (.bool true) (by kernel_rfl) rfl (fun J s _ _ hJ => ?_) ?_
    · go_simp
      exact hJ _ rfl
    intro J hJ
    go_simp
    refine hJ _ ?_
    clear hJ J
    refine fix3_eff 2 (.bool true) (rfl) (by kernel_rfl) rfl (fun J hJ => ?_) ?_
    · go_simp
      (exact hJ _ (Below.refl _ _))
    intro J hJ
    go_simp
    refine hJ _ ?_
    clear hJ J
    refine fix3_mid (.agg #[.int .i64 hh, .int .i64 mi, .string ti, .int .i64 wi, .int .u64 (po : Int), .slice Aa D.length ca, .int .i64 sa]) 0 6 (by kernel_rfl) rfl (fun J s hl hs hJ => ?_) ?_
    · exact wp_load_row 31 (.tmp 5) rfl pa (by rfl) 31 #[.int .i64 hh, .int .i64 mi, .string ti, .int .i64 wi, .int .u64 (po : Int), .slice Aa D.length ca, .int .i64 sa] (0, 0) _ (((hw s hs).block pa lpa8).trans ra8) Tryd.underlying31 rfl infoH (hJ _ rfl)
    intro J hJ
    go_simp
    refine hJ _ ?_
    clear hJ J
    refine fix3_eff 3 (.agg X1) (rfl) (by kernel_rfl) rfl (fun J hJ => ?_) ?_
    · go_simp
      (go_at_call 10; refine (HID1.out _ _ _ (HL8.out.below (hw 3 (by omega)) h28) (IA8.out.below (hw 3 (by omega)))).mono ?_; rintro e W1 ⟨rfl, y⟩; exact hJ _ y)
    intro J hJ
    go_simp
    refine hJ _ ?_
    clear hJ J
    refine fix3_mid (.agg #[.int .i64 hh', .int .i64 mi', .string ti', .int .i64 wi', .int .u64 (po' : Int), .slice Ab E.length cb, .int .i64 sa']) 0 6 (by kernel_rfl) rfl (fun J s hl hs hJ => ?_) ?_
    · exact wp_load_row 31 (.tmp 6) rfl pb (by rfl) 31 #[.int .i64 hh', .int .i64 mi', .string ti', .int .i64 wi', .int .u64 (po' : Int), .slice Ab E.length cb, .int .i64 sa'] (0, 0) _ (((hw s hs).block pb lpb8).trans rb8) Tryd.underlying31 rfl infoH (hJ _ rfl)
    intro J hJ
    go_simp
    refine hJ _ ?_
    clear hJ J
    refine fix3_eff 4 (.agg X2) (rfl) (by kernel_rfl) rfl (fun J hJ => ?_) ?_
    · go_simp
      (go_at_call 10; refine (HID2.out _ _ _ (HL8.out.below (hw 4 (by omega)) h28) (IB8.out.below (hw 4 (by omega)))).mono ?_; rintro e W1 ⟨rfl, y⟩; exact hJ _ y)
    intro J hJ
    go_simp
    refine hJ _ ?_
    clear hJ J
    refine fix3_mid (.bool false) 0 6 (by kernel_rfl) rfl (fun J s hl hs hJ => ?_) ?_
    · have he := HEQ.out (g s)
      go_simp
      exact hJ _ rfl
    intro J hJ
    go_simp
    refine hJ _ ?_
    clear hJ J
    refine fix3_eff 5 (.bool false) (rfl) (by kernel_rfl) rfl (fun J hJ => ?_) ?_
    · go_simp
      (exact hJ _ (Below.refl _ _))
    intro J hJ
    go_simp
    refine hJ _ ?_
    clear hJ J
    refine fix3_step ?_ (by kernel_rfl) rfl (fun J s _ _ hJ => ?_) ?_
    rotate_left
    · go_simp
      exact hJ _ rfl
    intro J hJ
    go_simp
    refine hJ _ ?_
    clear hJ J
    refine fix3_step ?_ (by kernel_rfl) rfl (fun J s _ _ hJ => ?_) ?_
    rotate_left
    · go_simp
      exact hJ _ rfl
    intro J hJ
    go_simp
    refine hJ _ ?_
    clear hJ J
    refine fix3_step ?_ (by kernel_rfl) rfl (fun J s _ _ hJ => ?_) ?_
    rotate_left
    · go_simp
      exact hJ _ rfl
    intro J hJ
    go_simp
    refine hJ _ ?_
    clear hJ J
    refine fix3_step ?_ (by kernel_rfl) rfl (fun J s _ _ hJ => ?_) ?_
    rotate_left
    · go_simp
      exact hJ _ rfl
    intro J hJ
    go_simp
    refine hJ _ ?_
    clear hJ J
    refine fix3_step ?_ (by kernel_rfl) rfl (fun J s _ _ hJ => ?_) ?_
    rotate_left
    · go_simp
      exact hJ _ rfl
    intro J hJ
    go_simp
    refine hJ _ ?_
    clear hJ J
    refine fix3_nil ?_
    have b9 := b8.trans ((hw 6 (by omega)).mono hX8)
    rw [← EX.out] at b9
    go_wp2
    go_ret
    exact ⟨rfl, b9⟩
  
  · refine region_fix3 [1, 3, 7, 9, 11, 13] (fun k _ _ => if k = 0 then .string sb1 else if k = 1 then .string sb2 else if k = 2 then .bool true else if k = 3 then .agg X1 else if k = 4 then .agg X2 else .bool true) (fun _ W W' => Below W.heap.size W W') (by kernel_rfl) (by kernel_rfl) (fun _ W => ⟨W, Below.refl _ _⟩) fun g g0 hG => ?_
    have hw : ∀ j : Nat, j ≤ 6 → Below w8.heap.size w8 (g j) := fun j => by
      induction j with
      | zero => intro _; rw [g0]; exact (Below.refl _ _).drew
      | succ j ih =>
        intro hj
        have a := ih (by omega)
        exact a.trans ((hG j (by simp; omega)).mono a.size)
    clear hG
    have G0 := Lib.hid g0
    clear g0
    refine fix3_mid (.agg #[.int .i64 hh, .int .i64 mi, .string ti, .int .i64 wi, .int .u64 (po : Int), .slice Aa D.length ca, .int .i64 sa]) 0 6 (by kernel_rfl) rfl (fun J s hl hs hJ => ?_) ?_
    · exact wp_load_row 31 (.tmp 5) rfl pa (by rfl) 31 #[.int .i64 hh, .int .i64 mi, .string ti, .int .i64 wi, .int .u64 (po : Int), .slice Aa D.length ca, .int .i64 sa] (0, 0) _ (((hw s hs).block pa lpa8).trans ra8) Tryd.underlying31 rfl infoH (hJ _ rfl)
    intro J hJ
    go_simp
    refine hJ _ ?_
    clear hJ J
    refine fix3_eff 0 (.string sb1) (rfl) (by kernel_rfl) rfl (fun J hJ => ?_) ?_
    · go_simp
      (go_at_call 9; refine (HBI1.out _ _ _ (IA8.out.below (hw 0 (by omega)))).mono ?_; rintro e W1 ⟨rfl, y⟩; exact hJ _ y)
    intro J hJ
    go_simp
    refine hJ _ ?_
    clear hJ J
    refine fix3_mid (.agg #[.int .i64 hh', .int .i64 mi', .string ti', .int .i64 wi', .int .u64 (po' : Int), .slice Ab E.length cb, .int .i64 sa']) 0 6 (by kernel_rfl) rfl (fun J s hl hs hJ => ?_) ?_
    · exact wp_load_row 31 (.tmp 6) rfl pb (by rfl) 31 #[.int .i64 hh', .int .i64 mi', .string ti', .int .i64 wi', .int .u64 (po' : Int), .slice Ab E.length cb, .int .i64 sa'] (0, 0) _ (((hw s hs).block pb lpb8).trans rb8) Tryd.underlying31 rfl infoH (hJ _ rfl)
    intro J hJ
    go_simp
    refine hJ _ ?_
    clear hJ J
    refine fix3_eff 1 (.string sb2) (rfl) (by kernel_rfl) rfl (fun J hJ => ?_) ?_
    · go_simp
      (go_at_call 9; refine (HBI2.out _ _ _ (IB8.out.below (hw 1 (by omega)))).mono ?_; rintro e W1 ⟨rfl, y⟩; exact hJ _ y)
    intro J hJ
    go_simp
    refine hJ _ ?_
    clear hJ J
    refine fix3_mid (.bool b) 0 6 (by kernel_rfl) rfl (fun J s hl hs hJ => ?_) ?_
    · have hb1 := HBB.out.1; have hb2 := HBB.out.2
      go_simp
      exact hJ _ rfl
    intro J hJ
    go_simp
    refine hJ _ ?_
    clear hJ J
    refine fix3_step ?_ (by kernel_rfl) rfl (fun J s _ _ hJ => ?_) ?_
    rotate_left
    · go_simp
      exact hJ _ rfl
    intro J hJ
    go_simp
    refine hJ _ ?_
    clear hJ J
    refine fix3_step (.bool true) (by kernel_rfl) rfl (fun J s _ _ hJ => ?_) ?_
    · go_simp
      exact hJ _ rfl
    intro J hJ
    go_simp
    refine hJ _ ?_
    clear hJ J
    refine fix3_eff 2 (.bool true) (rfl) (by kernel_rfl) rfl (fun J hJ => ?_) ?_
    · go_simp
      (exact hJ _ (Below.refl _ _))
    intro J hJ
    go_simp
    refine hJ _ ?_
    clear hJ J
    refine fix3_mid (.agg #[.int .i64 hh, .int .i64 mi, .string ti, .int .i64 wi, .int .u64 (po : Int), .slice Aa D.length ca, .int .i64 sa]) 0 6 (by kernel_rfl) rfl (fun J s hl hs hJ => ?_) ?_
    · exact wp_load_row 31 (.tmp 5) rfl pa (by rfl) 31 #[.int .i64 hh, .int .i64 mi, .string ti, .int .i64 wi, .int .u64 (po : Int), .slice Aa D.length ca, .int .i64 sa] (0, 0) _ (((hw s hs).block pa lpa8).trans ra8) Tryd.underlying31 rfl infoH (hJ _ rfl)
    intro J hJ
    go_simp
    refine hJ _ ?_
    clear hJ J
    refine fix3_eff 3 (.agg X1) (rfl) (by kernel_rfl) rfl (fun J hJ => ?_) ?_
    · go_simp
      (go_at_call 10; refine (HID1.out _ _ _ (HL8.out.below (hw 3 (by omega)) h28) (IA8.out.below (hw 3 (by omega)))).mono ?_; rintro e W1 ⟨rfl, y⟩; exact hJ _ y)
    intro J hJ
    go_simp
    refine hJ _ ?_
    clear hJ J
    refine fix3_mid (.agg #[.int .i64 hh', .int .i64 mi', .string ti', .int .i64 wi', .int .u64 (po' : Int), .slice Ab E.length cb, .int .i64 sa']) 0 6 (by kernel_rfl) rfl (fun J s hl hs hJ => ?_) ?_
    · exact wp_load_row 31 (.tmp 6) rfl pb (by rfl) 31 #[.int .i64 hh', .int .i64 mi', .string ti', .int .i64 wi', .int .u64 (po' : Int), .slice Ab E.length cb, .int .i64 sa'] (0, 0) _ (((hw s hs).block pb lpb8).trans rb8) Tryd.underlying31 rfl infoH (hJ _ rfl)
    intro J hJ
    go_simp
    refine hJ _ ?_
    clear hJ J
    refine fix3_eff 4 (.agg X2) (rfl) (by kernel_rfl) rfl (fun J hJ => ?_) ?_
    · go_simp
      (go_at_call 10; refine (HID2.out _ _ _ (HL8.out.below (hw 4 (by omega)) h28) (IB8.out.below (hw 4 (by omega)))).mono ?_; rintro e W1 ⟨rfl, y⟩; exact hJ _ y)
    intro J hJ
    go_simp
    refine hJ _ ?_
    clear hJ J
    refine fix3_mid (.bool true) 0 6 (by kernel_rfl) rfl (fun J s hl hs hJ => ?_) ?_
    · have he := HEQ.out (g s)
      go_simp
      exact hJ _ rfl
    intro J hJ
    go_simp
    refine hJ _ ?_
    clear hJ J
    refine fix3_eff 5 (.bool true) (rfl) (by kernel_rfl) rfl (fun J hJ => ?_) ?_
    · go_simp
      (exact hJ _ (Below.refl _ _))
    intro J hJ
    go_simp
    refine hJ _ ?_
    clear hJ J
    refine fix3_skip (by kernel_rfl) rfl ?_
    refine fix3_skip (by kernel_rfl) rfl ?_
    refine fix3_step ?_ (by kernel_rfl) rfl (fun J s _ _ hJ => ?_) ?_
    rotate_left
    · go_simp
      exact hJ _ rfl
    intro J hJ
    go_simp
    refine hJ _ ?_
    clear hJ J
    refine fix3_step ?_ (by kernel_rfl) rfl (fun J s _ _ hJ => ?_) ?_
    rotate_left
    · go_simp
      exact hJ _ rfl
    intro J hJ
    go_simp
    refine hJ _ ?_
    clear hJ J
    refine fix3_step ?_ (by kernel_rfl) rfl (fun J s _ _ hJ => ?_) ?_
    rotate_left
    · go_simp
      exact hJ _ rfl
    intro J hJ
    go_simp
    refine hJ _ ?_
    clear hJ J
    refine fix3_nil ?_
    have b9 := b8.trans ((hw 6 (by omega)).mono hX8)
    rw [← EX.out] at b9
    go_wp2
    go_ret
    exact ⟨rfl, b9⟩
end Go.Proofs.YtdpkodhfelnedaaDoor.Cod

/- Words: sort.order2_func, median_func, medianAdjacent_func, choosePivot_func by an order that lays blocks. Words: sort.partition_func by an order that lays blocks (written by genpart.py). Words: sort.partialInsertionSort_func by an order that lays blocks. Words: sort.pdqsort_func by an order that lays blocks; sort.Slice of any number of values (written by genpdq.py). -/
import Derived.Test.YtcpaejdipohndaaVSo
import Derived.Shelf.SlSortFuncK.PivotK
import Derived.Shelf.SlSortFuncK.PartitionK
import Derived.Shelf.SlSortFuncK.PartialInsertionK
import Derived.Shelf.SlSortFuncK.PdqK
namespace Go.Proofs.Ytcpaejdipohndaa.V
open Go.RowKit Go.Sort Go.Shelf Go.Lib Go.Maps Go.Proofs.YtcpaejdipohndaaW.PrintWords Go.Proofs.Ytcpaejdipohndaa.PAll
set_option linter.unusedVariables false
/-- The counter of swaps: the block cb holds s; nothing else has turned. -/
def Cv (cb s : Nat) (W W' : World) : Prop := W.grownBy W' (some cb) ∧ W'.heap[cb]? = some (.cells #[.int .i64 s] 3 (0, 0))
theorem Cv.trans {cb s t : Nat} {A B C : World} (h : Cv cb s A B) (k : Cv cb t B C) : Cv cb t A C := ⟨grown_tr h.1 k.1, k.2⟩
theorem grown_set {W W' : World} {cb j : Nat} {v : Value} (h : W.grownBy W' (some cb)) : W.grownBy (W'.setCell ⟨cb, j, none⟩ v) (some cb) := by
  refine grown_tr h ⟨rfl, rfl, rfl, by simp, fun k hk hne => ?_⟩
  have : k ≠ cb := fun e => hne (by rw [e])
  rw [setCell_eq]
  simp [mapBlock, Array.getElem?_modify, Ne.symm this]
theorem StV.grown {w W W' : World} {blk cb : Nat} {d : Array Va} (h : StV w blk d W) (hg : W.grownBy W' (some cb)) (hblk : blk < W.heap.size) (hne : cb ≠ blk) (hcb : w.heap.size ≤ cb) : StV w blk d W' := by
  have hb : W'.heap[blk]? = W.heap[blk]? := hg.block blk hblk (fun e => hne (by injection e with e; exact e.symm))
  refine ⟨⟨hg.os.trans h.1.os, hg.tape.trans h.1.tape, hg.output.trans h.1.output, Nat.le_trans h.1.size hg.size, fun j hj hn => ?_⟩, fun j hj => ?_, fun cur t fr hc => ?_⟩
  · exact (hg.block j (Nat.lt_of_lt_of_le hj h.1.size) (fun e => by injection e with e; omega)).trans (h.1.block j hj hn)
  · obtain ⟨h1, h2⟩ := h.2.1 j hj
    exact ⟨(World.cell?_of_block hb).trans h1, (World.frozen?_of_block hb).trans h2⟩
  · obtain ⟨cur', h1, h2⟩ := h.2.2 cur t fr hc
    exact ⟨cur', hb.trans h1, h2⟩
set_option maxRecDepth 100000 in
set_option maxHeartbeats 2000000 in
theorem o2_calls (lb : Array Value) (sf : Nat) (sb : Array Value) (blk a b cb s : Nat) (d : Array Va) (w W : World) (hless : LessV w blk d.size lb) (hst : StV w blk d W) (hblk : blk < W.heap.size)
    (hc : W.heap[cb]? = some (.cells #[.int .i64 s] 3 (0, 0))) (ha : a < d.size) (hb : b < d.size) (hs : s < 4611686018427387904) :
    Calls Try.prog 79 #[.agg #[.func (.func 30) #[] lb, .func (.func sf) #[] sb], .int .i64 a, .int .i64 b, .pointer (some ⟨cb, 0, none⟩)] W fun e w' =>
      e = .returned (.tuple #[.int .i64 (order2 ltV d a b s).1, .int .i64 (order2 ltV d a b s).2.1]) ∧ Cv cb (order2 ltV d a b s).2.2 W w' := by
  have eg := entersV
  have hb1 : Below W.heap.size W (W.alloc (.cells #[.func (.func 30) #[] lb, .func (.func sf) #[] sb] 85)) := (Below.refl _ W).alloc (Nat.le_refl _) _
  have hl := hless _ d (hst.below hb1 hblk) rfl b a hb ha
  have hcb : cb < W.heap.size := (Array.getElem?_eq_some_iff.1 hc).1
  have hc1 := (hb1.block cb hcb).trans hc
  have hz1 : (W.alloc (.cells #[.func (.func 30) #[] lb, .func (.func sf) #[] sb] 85)).heap.size = W.heap.size + 1 := by simp
  clear hless hst
  go_enter Try.func79, Try.ntmps79
  cases hlv : ltV d[b]! d[a]! with
  | true =>
    rw [hlv] at hl
    have e2 : order2 ltV d a b s = (b, a, s + 1) := by simp [order2, hlv]
    rw [e2]
    go_wp2_with (go_at_fn 30; refine hl.mono ?_; rintro e w' ⟨rfl, hB⟩; have hc2 := (hB.block cb (by omega)).trans hc1; have k0 : w'.cell? ⟨cb, 0, none⟩ = some (.int .i64 s) := cell_of_blk hc2 (j := 0) rfl; have k1 : ∀ i, w'.frozen? ⟨cb, i, none⟩ = false := (fun i => by simp only [World.frozen?, hc2]; rfl); have HC2 := Lib.hid hc2; clear hc2)
    go_ret2
    exact ⟨rfl, grown_set (grown_tr (grown_bel hb1) (grown_bel hB)), by have := blk_set HC2.out 0 (.int .i64 ((s : Int) + 1)); exact this⟩
  | false =>
    rw [hlv] at hl
    have e2 : order2 ltV d a b s = (a, b, s) := by simp [order2, hlv]
    rw [e2]
    go_wp2_with (go_at_fn 30; refine hl.mono ?_; rintro e w' ⟨rfl, hB⟩)
    go_ret2
    exact ⟨rfl, grown_tr (grown_bel hb1) (grown_bel hB), (hB.block cb (by omega)).trans hc1⟩
set_option maxRecDepth 100000 in
set_option maxHeartbeats 2000000 in
theorem md_calls (lb : Array Value) (sf : Nat) (sb : Array Value) (blk a b c cb s : Nat) (d : Array Va) (w W : World) (hless : LessV w blk d.size lb) (hst : StV w blk d W) (hblk : blk < W.heap.size) (hne : cb ≠ blk) (hwc : w.heap.size ≤ cb)
    (hc : W.heap[cb]? = some (.cells #[.int .i64 s] 3 (0, 0))) (ha : a < d.size) (hb : b < d.size) (hcc : c < d.size) (hs : s + 3 < 4611686018427387904) :
    Calls Try.prog 75 #[.agg #[.func (.func 30) #[] lb, .func (.func sf) #[] sb], .int .i64 a, .int .i64 b, .int .i64 c, .pointer (some ⟨cb, 0, none⟩)] W fun e w' =>
      e = .returned (.int .i64 (median ltV d a b c s).1) ∧ Cv cb (median ltV d a b c s).2 W w' := by
  obtain ⟨p1, q1, t1, h1⟩ : ∃ p q t, order2 ltV d a b s = (p, q, t) := ⟨_, _, _, rfl⟩
  obtain ⟨p2, q2, t2, h2⟩ : ∃ p q t, order2 ltV d q1 c t1 = (p, q, t) := ⟨_, _, _, rfl⟩
  obtain ⟨p3, q3, t3, h3⟩ : ∃ p q t, order2 ltV d p1 p2 t2 = (p, q, t) := ⟨_, _, _, rfl⟩
  have l1 := order2_lt' ltV d s ha hb
  have s1 := order2_swaps' ltV d a b s
  rw [h1] at l1 s1
  have l2 := order2_lt' ltV d t1 l1.2 hcc
  have s2 := order2_swaps' ltV d q1 c t1
  rw [h2] at l2 s2
  have hres : median ltV d a b c s = (q3, t3) := by unfold median; simp only [h1, h2, h3]
  have hb1 : Below W.heap.size W (W.alloc (.cells #[.func (.func 30) #[] lb, .func (.func sf) #[] sb] 85)) := (Below.refl _ W).alloc (Nat.le_refl _) _
  have hcb : cb < W.heap.size := (Array.getElem?_eq_some_iff.1 hc).1
  have hc1 := (hb1.block cb hcb).trans hc
  have hst1 := hst.below hb1 hblk
  have hD1 := World.alloc_heap_new W (.cells #[.func (.func 30) #[] lb, .func (.func sf) #[] sb] 85)
  have hz1 : (W.alloc (.cells #[.func (.func 30) #[] lb, .func (.func sf) #[] sb] 85)).heap.size = W.heap.size + 1 := by simp
  have hg1 := grown_bel (row := some cb) hb1
  rw [hres]
  clear hres hb1 hst
  go_enter Try.func75, Try.ntmps75
  go_wp2_with fail
  generalize W.alloc (.cells #[.func (.func 30) #[] lb, .func (.func sf) #[] sb] 85) = W1 at *
  have step : ∀ X (t a' b' : Nat), Cv cb t W1 X → a' < d.size → b' < d.size → t < 4611686018427387904 → Calls Try.prog 79 #[.agg #[.func (.func 30) #[] lb, .func (.func sf) #[] sb], .int .i64 a', .int .i64 b', .pointer (some ⟨cb, 0, none⟩)] X fun e w' =>
      e = .returned (.tuple #[.int .i64 (order2 ltV d a' b' t).1, .int .i64 (order2 ltV d a' b' t).2.1]) ∧ Cv cb (order2 ltV d a' b' t).2.2 W1 w' := fun X t a' b' hX ha' hb' ht =>
    (o2_calls lb sf sb blk a' b' cb t d w X hless (hst1.grown hX.1 (by omega) hne hwc) (Nat.lt_of_lt_of_le (by omega) hX.1.size) hX.2 ha' hb' ht).mono fun _ _ h => ⟨h.1, hX.trans h.2⟩
  have box : ∀ X (t : Nat), Cv cb t W1 X → X.cell? ⟨W.heap.size, 0, none⟩ = some (.func (.func 30) #[] lb) ∧ X.cell? ⟨W.heap.size, 1, none⟩ = some (.func (.func sf) #[] sb) := fun X t hX => by
    have := (hX.1.block W.heap.size (by omega) (fun e => by injection e with e; omega)).trans hD1
    exact ⟨cell_of_blk this (j := 0) rfl, cell_of_blk this (j := 1) rfl⟩
  have HSt : Aside _ := step
  have HBx : Aside _ := box
  have hv1 : Cv cb s W1 W1 := ⟨⟨rfl, rfl, rfl, Nat.le_refl _, fun _ _ _ => rfl⟩, hc1⟩
  have e1 := HSt.out W1 s a b hv1 ha hb (by omega)
  rw [h1] at e1
  obtain ⟨y0, y1⟩ := HBx.out W1 s hv1
  clear step box hv1 hD1 hc hc1 hst1 hless
  go_wp2_with (refine e1.mono ?_; rintro e w2 ⟨rfl, hv2⟩; have e2 := HSt.out w2 t1 q1 c hv2 l1.2 hcc (by omega); rw [h2] at e2; obtain ⟨z0, z1⟩ := HBx.out w2 _ hv2; clear e1 y0 y1)
  go_wp2_with (refine e2.mono ?_; rintro e w3 ⟨rfl, hv3⟩; have e3 := HSt.out w3 t2 p1 p2 hv3 l1.1 l2.1 (by omega); rw [h3] at e3; obtain ⟨x0, x1⟩ := HBx.out w3 _ hv3; clear e2 z0 z1)
  go_wp2_with (refine e3.mono ?_; rintro e w4 ⟨rfl, hv4⟩)
  go_ret
  exact ⟨rfl, grown_tr hg1 hv4.1, hv4.2⟩
set_option maxRecDepth 100000 in
set_option maxHeartbeats 2000000 in
theorem ma_calls (lb : Array Value) (sf : Nat) (sb : Array Value) (blk a cb s : Nat) (d : Array Va) (w W : World) (hless : LessV w blk d.size lb) (hst : StV w blk d W) (hblk : blk < W.heap.size) (hne : cb ≠ blk) (hwc : w.heap.size ≤ cb)
    (hc : W.heap[cb]? = some (.cells #[.int .i64 s] 3 (0, 0))) (ha1 : 1 ≤ a) (ha2 : a + 1 < d.size) (hs : s + 3 < 4611686018427387904) (hsz : d.size < 4611686018427387904) :
    Calls Try.prog 74 #[.agg #[.func (.func 30) #[] lb, .func (.func sf) #[] sb], .int .i64 a, .pointer (some ⟨cb, 0, none⟩)] W fun e w' =>
      e = .returned (.int .i64 (medianAdjacent ltV d a s).1) ∧ Cv cb (medianAdjacent ltV d a s).2 W w' := by
  have hb1 : Below W.heap.size W (W.alloc (.cells #[.func (.func 30) #[] lb, .func (.func sf) #[] sb] 85)) := (Below.refl _ W).alloc (Nat.le_refl _) _
  have hcb : cb < W.heap.size := (Array.getElem?_eq_some_iff.1 hc).1
  have hm := md_calls lb sf sb blk (a - 1) a (a + 1) cb s d w _ hless (hst.below hb1 hblk) (Nat.lt_of_lt_of_le hblk hb1.size) hne hwc ((hb1.block cb hcb).trans hc) (by omega) (by omega) ha2 hs
  rw [show ((a - 1 : Nat) : Int) = (a : Int) - 1 by omega, show ((a + 1 : Nat) : Int) = (a : Int) + 1 by omega] at hm
  have hg1 := grown_bel (row := some cb) hb1
  clear hless hst hb1 hc
  go_enter Try.func74, Try.ntmps74
  go_wp2_with (refine hm.mono ?_; rintro e w' ⟨rfl, hv⟩)
  go_ret
  exact ⟨rfl, grown_tr hg1 hv.1, hv.2⟩
/-- The pivot: the row is not turned. -/
theorem bel_of_grown {W A B : World} {cb : Nat} (hb : Below W.heap.size W A) (hg : A.grownBy B (some cb)) (hc : W.heap.size ≤ cb) : Below W.heap.size W B :=
  ⟨hg.os.trans hb.os, hg.tape.trans hb.tape, hg.output.trans hb.output, Nat.le_trans hb.size hg.size, fun k hk => (hg.block k (Nat.lt_of_lt_of_le hk hb.size) (fun e => by injection e with e; omega)).trans (hb.block k hk)⟩
set_option maxRecDepth 100000 in
set_option maxHeartbeats 4000000 in
theorem cp_calls (lb : Array Value) (sf : Nat) (sb : Array Value) (blk a b : Nat) (d : Array Va) (W : World) (hless : LessV W blk d.size lb)
    (hH : HoldsK encV 3 W blk 0 d) (hblk : blk < W.heap.size) (hab : a < b) (hb : b ≤ d.size) (hsz : d.size < 4611686018427387904) :
    Calls Try.prog 61 #[.agg #[.func (.func 30) #[] lb, .func (.func sf) #[] sb], .int .i64 a, .int .i64 b] W fun e w' =>
      e = .returned (.tuple #[.int .i64 (choosePivot ltV d a b).1, .int .i64 (hintCode (choosePivot ltV d a b).2)]) ∧ Below W.heap.size W w' := by
  have hb1 : Below W.heap.size W (W.alloc (.cells #[.func (.func 30) #[] lb, .func (.func sf) #[] sb] 85)) := (Below.refl _ W).alloc (Nat.le_refl _) _
  have hz1 : (W.alloc (.cells #[.func (.func 30) #[] lb, .func (.func sf) #[] sb] 85)).heap.size = W.heap.size + 1 := by simp
  have hD1 := World.alloc_heap_new W (.cells #[.func (.func 30) #[] lb, .func (.func sf) #[] sb] 85)
  have hb2 := hb1.alloc (by omega) (.cells #[.int .i64 0] 3)
  have hD2 : ((W.alloc (.cells #[.func (.func 30) #[] lb, .func (.func sf) #[] sb] 85)).alloc (.cells #[.int .i64 0] 3)).heap[W.heap.size]? = _ := (((Below.refl _ _).alloc (Nat.le_refl _) _).block _ (by omega)).trans hD1
  have hC2 := World.alloc_heap_new (W.alloc (.cells #[.func (.func 30) #[] lb, .func (.func sf) #[] sb] 85)) (.cells #[.int .i64 0] 3)
  have hz2 : ((W.alloc (.cells #[.func (.func 30) #[] lb, .func (.func sf) #[] sb] 85)).alloc (.cells #[.int .i64 0] 3)).heap.size = W.heap.size + 2 := by simp
  rw [hz1] at hC2
  have hst0 : StV W blk d W := .self hH
  have hst2 := hst0.below hb2 hblk
  clear hst0 hH hb1 hD1
  generalize hW2 : ((W.alloc (.cells #[.func (.func 30) #[] lb, .func (.func sf) #[] sb] 85)).alloc (.cells #[.int .i64 0] 3)) = W2 at *
  have MA : ∀ X (x s : Nat), Cv (W.heap.size + 1) s W2 X → 1 ≤ x → x + 1 < d.size → s + 3 < 4611686018427387904 → Calls Try.prog 74 #[.agg #[.func (.func 30) #[] lb, .func (.func sf) #[] sb], .int .i64 x, .pointer (some ⟨W.heap.size + 1, 0, none⟩)] X fun e w' =>
      e = .returned (.int .i64 (medianAdjacent ltV d x s).1) ∧ Cv (W.heap.size + 1) (medianAdjacent ltV d x s).2 W2 w' := fun X x s hX h1 h2 hs =>
    (ma_calls lb sf sb blk x (W.heap.size + 1) s d W X hless (hst2.grown hX.1 (by omega) (by omega) (by omega)) (Nat.lt_of_lt_of_le (by omega) hX.1.size) (by omega) (by omega) hX.2 h1 h2 hs hsz).mono fun _ _ h => ⟨h.1, hX.trans h.2⟩
  have MD : ∀ X (x y z s : Nat), Cv (W.heap.size + 1) s W2 X → x < d.size → y < d.size → z < d.size → s + 3 < 4611686018427387904 → Calls Try.prog 75 #[.agg #[.func (.func 30) #[] lb, .func (.func sf) #[] sb], .int .i64 x, .int .i64 y, .int .i64 z, .pointer (some ⟨W.heap.size + 1, 0, none⟩)] X fun e w' =>
      e = .returned (.int .i64 (median ltV d x y z s).1) ∧ Cv (W.heap.size + 1) (median ltV d x y z s).2 W2 w' := fun X x y z s hX h1 h2 h3 hs =>
    (md_calls lb sf sb blk x y z (W.heap.size + 1) s d W X hless (hst2.grown hX.1 (by omega) (by omega) (by omega)) (Nat.lt_of_lt_of_le (by omega) hX.1.size) (by omega) (by omega) hX.2 h1 h2 h3 hs).mono fun _ _ h => ⟨h.1, hX.trans h.2⟩
  have box : ∀ X (t : Nat), Cv (W.heap.size + 1) t W2 X → X.cell? ⟨W.heap.size, 0, none⟩ = some (.func (.func 30) #[] lb) ∧ X.cell? ⟨W.heap.size, 1, none⟩ = some (.func (.func sf) #[] sb) ∧ X.cell? ⟨W.heap.size + 1, 0, none⟩ = some (.int .i64 t) := fun X t hX => by
    have := (hX.1.block W.heap.size (by omega) (fun e => by injection e with e; omega)).trans hD2
    exact ⟨cell_of_blk this (j := 0) rfl, cell_of_blk this (j := 1) rfl, cell_of_blk hX.2 (j := 0) rfl⟩
  have hv0 : Cv (W.heap.size + 1) 0 W2 W2 := ⟨⟨rfl, rfl, rfl, Nat.le_refl _, fun _ _ _ => rfl⟩, hC2⟩
  have fin : ∀ X t, Cv (W.heap.size + 1) t W2 X → Below W.heap.size W X := fun X t hX => bel_of_grown hb2 hX.1 (by omega)
  have HMA : Aside _ := MA
  have HMD : Aside _ := MD
  have HBx : Aside _ := box
  have HFin : Aside _ := fin
  have HW2 := Lib.hid hW2
  clear MA MD box fin hst2 hless hD2 hC2 hb2 hW2
  rw [choosePivot_eq]
  obtain ⟨I, hI⟩ : ∃ I : Nat, I = a + (b - a) / 4 * 1 := ⟨_, rfl⟩
  obtain ⟨J, hJ⟩ : ∃ J : Nat, J = a + (b - a) / 4 * 2 := ⟨_, rfl⟩
  obtain ⟨K, hK⟩ : ∃ K : Nat, K = a + (b - a) / 4 * 3 := ⟨_, rfl⟩
  have eI : ((a : Int) + ((b : Int) - (a : Int)) / 4) = (I : Int) := by omega
  have eJ : ((a : Int) + ((b : Int) - (a : Int)) / 4 * 2) = (J : Int) := by omega
  have eK : ((a : Int) + ((b : Int) - (a : Int)) / 4 * 3) = (K : Int) := by omega
  by_cases h8 : b - a ≥ 8
  · by_cases h50 : b - a ≥ 50
    · obtain ⟨i1, s1, h1⟩ : ∃ i1 s1, medianAdjacent ltV d I 0 = (i1, s1) := ⟨_, _, rfl⟩
      obtain ⟨j1, s2, h2⟩ : ∃ j1 s2, medianAdjacent ltV d J s1 = (j1, s2) := ⟨_, _, rfl⟩
      obtain ⟨k1, s3, h3⟩ : ∃ k1 s3, medianAdjacent ltV d K s2 = (k1, s3) := ⟨_, _, rfl⟩
      obtain ⟨p, s, h4⟩ : ∃ p s, median ltV d i1 j1 k1 s3 = (p, s) := ⟨_, _, rfl⟩
      have hraw : rawPivot ltV d a b = (p, s) := by simp only [rawPivot, if_pos h8, if_pos h50, ← hI, ← hJ, ← hK, h1, h2, h3, h4]
      have m1 := medianAdjacent_mem ltV d I 0; rw [h1] at m1
      have m2 := medianAdjacent_mem ltV d J s1; rw [h2] at m2
      have m3 := medianAdjacent_mem ltV d K s2; rw [h3] at m3
      have n1 := medianAdjacent_count ltV d I 0; rw [h1] at n1
      have n2 := medianAdjacent_count ltV d J s1; rw [h2] at n2
      have n3 := medianAdjacent_count ltV d K s2; rw [h3] at n3
      simp only [] at m1 m2 m3 n1 n2 n3
      have c1 := HMA.out W2 I 0 hv0 (by omega) (by omega) (by omega)
      rw [h1] at c1
      rw [hraw]
      obtain ⟨Hc, hHc⟩ : ∃ Hc : Int, Hc = hintCode (hintOf s) := ⟨_, rfl⟩
      have hh0 : s = 0 → Hc = 1 := fun h => by rw [hHc, h]; rfl
      have hh12 : s = 12 → Hc = 2 := fun h => by rw [hHc, h]; rfl
      have hhx : s ≠ 0 → s ≠ 12 → Hc = 0 := fun h1 h2 => by rw [hHc]; unfold hintOf; rw [if_neg h1, if_neg h2]; rfl
      show Calls Try.prog _ _ W fun e w' => e = .returned (.tuple #[.int .i64 (p : Int), .int .i64 (hintCode (hintOf s))]) ∧ Below W.heap.size W w'
      rw [← hHc]
      have H8z : (8 : Int) ≤ (b : Int) - (a : Int) := by omega
      have H50z : (50 : Int) ≤ (b : Int) - (a : Int) := by omega
      have a1 : 1 ≤ J := by omega
      have a2 : J + 1 < d.size := by omega
      have a3 : 1 ≤ K := by omega
      have a4 : K + 1 < d.size := by omega
      have a5 : s1 + 3 < 4611686018427387904 := by omega
      have a6 : s2 + 3 < 4611686018427387904 := by omega
      have a7 : s3 + 3 < 4611686018427387904 := by omega
      have a8 : i1 < d.size := by omega
      have a9 : j1 < d.size := by omega
      have a10 : k1 < d.size := by omega
      obtain ⟨y0, y1, y2⟩ := HBx.out W2 0 hv0
      clear hHc hraw hI hJ hK m1 m2 m3 hv0
      go_enter Try.func61, Try.ntmps61
      have hW2 := HW2.out
      go_wp2_with (refine c1.mono ?_; rintro e w3 ⟨rfl, hv3⟩; have c2 := HMA.out w3 J s1 hv3 a1 a2 a5; rw [h2] at c2; obtain ⟨z0, z1, z2⟩ := HBx.out w3 _ hv3; clear c1 y0 y1 y2 hW2)
      go_wp2_with (refine c2.mono ?_; rintro e w4 ⟨rfl, hv4⟩; have c3 := HMA.out w4 K s2 hv4 a3 a4 a6; rw [h3] at c3; obtain ⟨x0, x1, x2⟩ := HBx.out w4 _ hv4; clear c2 z0 z1 z2)
      go_wp2_with (refine c3.mono ?_; rintro e w5 ⟨rfl, hv5⟩; have c4 := HMD.out w5 i1 j1 k1 s3 hv5 a8 a9 a10 a7; rw [h4] at c4; obtain ⟨u0, u1, u2⟩ := HBx.out w5 _ hv5; clear c3 x0 x1 x2)
      go_wp2_with (refine c4.mono ?_; rintro e w6 ⟨rfl, hv6⟩; obtain ⟨v0, v1, v2⟩ := HBx.out w6 _ hv6; clear c4 u0 u1 u2)
      all_goals
        go_ret2
        refine ⟨?_, HFin.out _ _ hv6⟩
        first
          | (have e0 : (s : Int) = 0 := of_beq_int (by assumption)
             rw [hh0 (by omega)]; rfl)
          | (have e1 : (s : Int) = 12 := of_beq_int (by assumption)
             rw [hh12 (by omega)]; rfl)
          | (have e0 : (s : Int) ≠ 0 := of_bne_int (by assumption)
             have e1 : (s : Int) ≠ 12 := of_bne_int (by assumption)
             rw [hhx (by omega) (by omega)]; rfl)
    · obtain ⟨p, s, h4⟩ : ∃ p s, median ltV d I J K 0 = (p, s) := ⟨_, _, rfl⟩
      have hraw : rawPivot ltV d a b = (p, s) := by simp only [rawPivot, if_pos h8, if_neg h50, ← hI, ← hJ, ← hK, h4]
      have c4 := HMD.out W2 I J K 0 hv0 (by omega) (by omega) (by omega) (by omega)
      rw [h4] at c4
      rw [hraw]
      obtain ⟨Hc, hHc⟩ : ∃ Hc : Int, Hc = hintCode (hintOf s) := ⟨_, rfl⟩
      have hh0 : s = 0 → Hc = 1 := fun h => by rw [hHc, h]; rfl
      have hh12 : s = 12 → Hc = 2 := fun h => by rw [hHc, h]; rfl
      have hhx : s ≠ 0 → s ≠ 12 → Hc = 0 := fun h1 h2 => by rw [hHc]; unfold hintOf; rw [if_neg h1, if_neg h2]; rfl
      show Calls Try.prog _ _ W fun e w' => e = .returned (.tuple #[.int .i64 (p : Int), .int .i64 (hintCode (hintOf s))]) ∧ Below W.heap.size W w'
      rw [← hHc]
      have H8z : (8 : Int) ≤ (b : Int) - (a : Int) := by omega
      have H50z : ¬ (50 : Int) ≤ (b : Int) - (a : Int) := by omega
      obtain ⟨y0, y1, y2⟩ := HBx.out W2 0 hv0
      clear hHc hraw hI hJ hK hv0
      go_enter Try.func61, Try.ntmps61
      have hW2 := HW2.out
      go_wp2_with (refine c4.mono ?_; rintro e w6 ⟨rfl, hv6⟩; obtain ⟨v0, v1, v2⟩ := HBx.out w6 _ hv6; clear c4 y0 y1 y2 hW2)
      all_goals
        go_ret2
        refine ⟨?_, HFin.out _ _ hv6⟩
        first
          | (have e0 : (s : Int) = 0 := of_beq_int (by assumption)
             rw [hh0 (by omega)]; rfl)
          | (have e1 : (s : Int) = 12 := of_beq_int (by assumption)
             rw [hh12 (by omega)]; rfl)
          | (have e0 : (s : Int) ≠ 0 := of_bne_int (by assumption)
             have e1 : (s : Int) ≠ 12 := of_bne_int (by assumption)
             rw [hhx (by omega) (by omega)]; rfl)
  · have hraw : rawPivot ltV d a b = (J, 0) := by simp only [rawPivot, if_neg h8, ← hJ]
    rw [hraw]
    show Calls Try.prog _ _ W fun e w' => e = .returned (.tuple #[.int .i64 (J : Int), .int .i64 1]) ∧ Below W.heap.size W w'
    have H8z : ¬ (8 : Int) ≤ (b : Int) - (a : Int) := by omega
    obtain ⟨y0, y1, y2⟩ := HBx.out W2 0 hv0
    clear hraw hI hJ hK
    go_enter Try.func61, Try.ntmps61
    have hW2 := HW2.out
    go_wp2
    all_goals
      go_ret2
      exact ⟨rfl, HFin.out _ _ hv0⟩
end Go.Proofs.Ytcpaejdipohndaa.V
namespace Go.Proofs.Ytcpaejdipohndaa.V
open Go.RowKit Go.Sort Go.Shelf Go.Lib Go.Maps Go.Proofs.YtcpaejdipohndaaW.PrintWords Go.Proofs.Ytcpaejdipohndaa.PAll
set_option linter.unusedVariables false
set_option maxRecDepth 100000 in
set_option maxHeartbeats 8000000 in
theorem pt_calls (lb : Array Value) (sf : Nat) (sb : Array Value) (blk a b pivot : Nat) (d : Array Va) (w : World) (hless : LessV w blk d.size lb) (hswap : swapV sf sb blk d.size)
    (hH : HoldsK encV 3 w blk 0 d) (hblk : blk < w.heap.size) (hap : a ≤ pivot) (hpb : pivot < b) (hb : b ≤ d.size) (hsz : d.size < 4611686018427387904) :
    Calls Try.prog 65 #[.agg #[.func (.func 30) #[] lb, .func (.func sf) #[] sb], .int .i64 a, .int .i64 b, .int .i64 pivot] w fun e w' =>
      e = .returned (.tuple #[.int .i64 (Sort.partition ltV d a b pivot).1, .bool (Sort.partition ltV d a b pivot).2.1]) ∧ StV w blk (Sort.partition ltV d a b pivot).2.2 w' := by
  have eg := entersV
  have h0 : SS w blk d.size w.heap.size lb sf sb d _ := SS.start (sf := sf) (sb := sb) (lb := lb) hH hblk
  clear hH hblk
  obtain ⟨w2, hs0, hsw0⟩ := h0.swaps' hswap (x := (a : Int)) (y := (pivot : Int)) a pivot rfl rfl (by omega) (by omega)
  have hsw := hsw0.out
  clear hsw0
  have c1 := h0.c1
  clear h0
  go_enter Try.func65, Try.ntmps65
  generalize hw1 : (w.alloc (.cells #[.func (.func 30) #[] lb, .func (.func sf) #[] sb] 85)) = w1 at *
  obtain ⟨i, hi⟩ : ∃ i : Nat, i = a + 1 := ⟨_, rfl⟩
  obtain ⟨j, hj⟩ : ∃ j : Nat, j = b - 1 := ⟨_, rfl⟩
  obtain ⟨dk, hdk⟩ : ∃ dk : Array Va, dk = Sort.swp d a pivot := ⟨_, rfl⟩
  have hiz : (a : Int) + 1 = (i : Int) := by omega
  have hjz : (b : Int) - 1 = (j : Int) := by omega
  rw [← hdk] at hsw
  have Hi := Lib.hid hi
  have Hj := Lib.hid hj
  have Hdk := Lib.hid hdk
  have hai : a < i := by omega
  have hij : i ≤ j + 1 := by omega
  have hjb : j < b := by omega
  clear hi hj hdk
  go_upto_block 0 with (fail)
  clear hs0 c1 hw1 hiz hjz
  generalize w.heap.size = db at *
  generalize hn : d.size = n at *
  have HLess := Lib.hid hless
  have HSwap := Lib.hid hswap
  have HS := Lib.hid hsw
  clear hless hswap hsw
  go_upto_block 0 with (fail)
  go_cut [10] (fun s wc => ∃ (i2 : Nat), s = .int .i64 i2 ∧ i ≤ i2 ∧ i2 ≤ j + 1 ∧ SS w blk n db lb sf sb dk wc ∧ i2 = Sort.scanUp (fun x => ltV x dk[a]!) dk j i)
  case first =>
    go_wp2_with fail
    go_loopw [10] (fun s wr => ∃ (i' : Nat), s = .int .i64 i' ∧ i ≤ i' ∧ i' ≤ j + 1 ∧ SS w blk n db lb sf sb dk wr ∧ Sort.scanUp (fun x => ltV x dk[a]!) dk j i' = Sort.scanUp (fun x => ltV x dk[a]!) dk j i) (fun s _ => j + 1 - (intOf s).toNat)
    case atStart => exact ⟨i, rfl, Nat.le_refl _, hij, HS.out, rfl⟩
    case round =>
      clear HS 
      obtain ⟨i', rfl, hii, hij', hS, hsc⟩ := hrel
      have HSc := Lib.hid hsc
      have HS := Lib.hid hS
      have c0 := hS.c0
      clear hsc
      by_cases hle : i' ≤ j
      · have hlez : decide ((i' : Int) ≤ (j : Int)) = true := decide_eq_true (by omega)
        have hl := hS.less HLess.out (x := (i' : Int)) (y := (a : Int)) i' a rfl rfl (by omega) (by omega)
        clear hS
        cases hlv : ltV dk[i']! dk[a]! with
        | true =>
          rw [hlv] at hl
          go_wp2_with (go_at_fn 30; refine hl.mono ?_; rintro e w' ⟨rfl, hB⟩; have HS2 := Lib.hid (HS.out.below hB))
          go_roundw
          case rel => exact ⟨i' + 1, by go_num, by omega, by omega, HS2.out, (scanUp_go (fun x => ltV x dk[a]!) dk j i' hle (by simp [hlv])).symm.trans HSc.out⟩
          case measure => simp [intOf]; omega
        | false =>
          rw [hlv] at hl
          go_wp2_with (go_at_fn 30; refine hl.mono ?_; rintro e w' ⟨rfl, hB⟩; have HS2 := Lib.hid (HS.out.below hB))
          go_meet
          case rel => exact ⟨i', rfl, hii, hij', HS2.out, (scanUp_end (fun x => ltV x dk[a]!) dk j i' (Or.inr (by simp [hlv]))).symm.trans HSc.out⟩
      · have hlez : decide ((i' : Int) ≤ (j : Int)) = false := decide_eq_false (by omega)
        clear hS
        go_wp2_with fail
        go_meet
        case rel => exact ⟨i', rfl, hii, hij', HS.out, (scanUp_end (fun x => ltV x dk[a]!) dk j i' (Or.inl hle)).symm.trans HSc.out⟩
  case rest =>
    clear HS
    obtain ⟨i2, rfl, hii, hij2, hS, hi2⟩ := hcut
    have Hi2 := Lib.hid hi2
    have HS := Lib.hid hS
    clear hi2 hS
    go_upto_block 2 with (fail)
    go_cut [11] (fun s wc => ∃ (j2 : Nat), s = .int .i64 j2 ∧ j2 ≤ j ∧ i2 ≤ j2 + 1 ∧ SS w blk n db lb sf sb dk wc ∧ j2 = Sort.scanDown (fun x => !ltV x dk[a]!) dk i2 j)
    case first =>
      go_wp2_with fail
      go_loopw [11] (fun s wr => ∃ (j' : Nat), s = .int .i64 j' ∧ j' ≤ j ∧ i2 ≤ j' + 1 ∧ SS w blk n db lb sf sb dk wr ∧ Sort.scanDown (fun x => !ltV x dk[a]!) dk i2 j' = Sort.scanDown (fun x => !ltV x dk[a]!) dk i2 j) (fun s _ => (intOf s).toNat)
      case atStart => exact ⟨j, rfl, Nat.le_refl _, hij2, HS.out, rfl⟩
      case round =>
        clear HS  Hi2
        obtain ⟨j', rfl, hjj, hij', hS, hsc⟩ := hrel
        have HSc := Lib.hid hsc
        have HS := Lib.hid hS
        have c0 := hS.c0
        clear hsc
        by_cases hle : i2 ≤ j'
        · have hlez : decide ((i2 : Int) ≤ (j' : Int)) = true := decide_eq_true (by omega)
          have hl := hS.less HLess.out (x := (j' : Int)) (y := (a : Int)) j' a rfl rfl (by omega) (by omega)
          clear hS
          cases hlv : ltV dk[j']! dk[a]! with
          | false =>
            rw [hlv] at hl
            go_wp2_with (go_at_fn 30; refine hl.mono ?_; rintro e w' ⟨rfl, hB⟩; have HS2 := Lib.hid (HS.out.below hB))
            go_roundw
            case rel => exact ⟨j' - 1, by go_num, by omega, by omega, HS2.out, (scanDown_go (fun x => !ltV x dk[a]!) dk i2 j' hle (by omega) (by simp [hlv])).symm.trans HSc.out⟩
            case measure => simp [intOf]; omega
          | true =>
            rw [hlv] at hl
            go_wp2_with (go_at_fn 30; refine hl.mono ?_; rintro e w' ⟨rfl, hB⟩; have HS2 := Lib.hid (HS.out.below hB))
            go_meet
            case rel => exact ⟨j', rfl, hjj, hij', HS2.out, (scanDown_end (fun x => !ltV x dk[a]!) dk i2 j' (Or.inr (by simp [hlv]))).symm.trans HSc.out⟩
        · have hlez : decide ((i2 : Int) ≤ (j' : Int)) = false := decide_eq_false (by omega)
          clear hS
          go_wp2_with fail
          go_meet
          case rel => exact ⟨j', rfl, hjj, hij', HS.out, (scanDown_end (fun x => !ltV x dk[a]!) dk i2 j' (Or.inl hle)).symm.trans HSc.out⟩
    case rest =>
      clear HS
      obtain ⟨j2, rfl, hjj, hij3, hS, hj2⟩ := hcut
      have Hj2 := Lib.hid hj2
      have HS := Lib.hid hS
      clear hj2
      by_cases hgt : i2 > j2
      · have hgtz : decide ((i2 : Int) > (j2 : Int)) = true := decide_eq_true (by omega)
        have hgtz2 : decide ((j2 : Int) < (i2 : Int)) = true := decide_eq_true (by omega)
        obtain ⟨w5, hs, hsw⟩ := hS.swaps' HSwap.out (x := (j2 : Int)) (y := (a : Int)) j2 a rfl rfl (by omega) (by omega)
        have c1 := hS.c1
        clear hS
        have e := part_first_break ltV d a b pivot Hi.out Hj.out Hdk.out Hi2.out Hj2.out (by omega)
        have E := Lib.hid e
        clear e
        go_wp2_with fail
        go_ret2
        rw [E.out]
        exact ⟨rfl, hsw.out.st⟩
      · have hgtz : decide ((i2 : Int) > (j2 : Int)) = false := decide_eq_false (by omega)
        have hgtz2 : decide ((j2 : Int) < (i2 : Int)) = false := decide_eq_false (by omega)
        have hlt3 := part_scans_lt ltV a i j dk (by omega) Hi2.out Hj2.out (by omega)
        have HF := Lib.hid (part_first_go ltV d a b pivot Hi.out Hj.out Hdk.out Hi2.out Hj2.out hgt)
        obtain ⟨w5, hs, HS1⟩ := hS.swaps' HSwap.out (x := (i2 : Int)) (y := (j2 : Int)) i2 j2 rfl rfl (by omega) (by omega)
        have c1 := hS.c1
        clear hS HS
        obtain ⟨i1, hi1⟩ : ∃ i1 : Nat, i1 = i2 + 1 := ⟨_, rfl⟩
        obtain ⟨j1, hj1⟩ : ∃ j1 : Nat, j1 = j2 - 1 := ⟨_, rfl⟩
        have hiz1 : (i2 : Int) + 1 = (i1 : Int) := by omega
        have hjz1 : (j2 : Int) - 1 = (j1 : Int) := by omega
        rw [← hi1, ← hj1] at HF
        have hai1 : a < i1 := by omega
        have hij1 : i1 ≤ j1 + 1 := by omega
        have hjb1 : j1 < b := by omega
        generalize Sort.swp dk i2 j2 = dk1 at *
        clear Hi Hj Hdk Hi2 Hj2 hi1 hj1
        go_upto_block 4 with (fail)
        go_cut [11] (fun s wc => ∃ (j9 : Nat) (d9 : Array Va), s = .int .i64 j9 ∧ a ≤ j9 ∧ j9 < b ∧ SS w blk n db lb sf sb d9 wc ∧ Sort.partLoop ltV a i1 j1 dk1 = (j9, d9))
        case first =>
          go_wp2_with fail
          go_loopw [10, 11] (fun vi vj wr => ∃ (i j : Nat) (dk : Array Va), vi = .int .i64 i ∧ vj = .int .i64 j ∧ a < i ∧ i ≤ j + 1 ∧ j < b ∧ SS w blk n db lb sf sb dk wr ∧
              Sort.partLoop ltV a i j dk = Sort.partLoop ltV a i1 j1 dk1) (fun vi vj _ => (intOf vj).toNat + 1 - (intOf vi).toNat)
          case atStart => exact ⟨i1, j1, dk1, rfl, rfl, hai1, hij1, hjb1, HS1.out, rfl⟩
          case round =>
            clear HS1
            obtain ⟨i, j, dk, rfl, rfl, hai, hij, hjb, hS, hE⟩ := hrel
            have HE := Lib.hid hE
            have HS := Lib.hid hS
            clear hE hS
            go_upto_block 6 with (fail)
            go_cut [10] (fun s wc => ∃ (i2 : Nat), s = .int .i64 i2 ∧ i ≤ i2 ∧ i2 ≤ j + 1 ∧ SS w blk n db lb sf sb dk wc ∧ i2 = Sort.scanUp (fun x => ltV x dk[a]!) dk j i)
            case first =>
              go_wp2_with fail
              go_loopw [10] (fun s wr => ∃ (i' : Nat), s = .int .i64 i' ∧ i ≤ i' ∧ i' ≤ j + 1 ∧ SS w blk n db lb sf sb dk wr ∧ Sort.scanUp (fun x => ltV x dk[a]!) dk j i' = Sort.scanUp (fun x => ltV x dk[a]!) dk j i) (fun s _ => j + 1 - (intOf s).toNat)
              case atStart => exact ⟨i, rfl, Nat.le_refl _, hij, HS.out, rfl⟩
              case round =>
                clear HS HE
                obtain ⟨i', rfl, hii, hij', hS, hsc⟩ := hrel
                have HSc := Lib.hid hsc
                have HS := Lib.hid hS
                have c0 := hS.c0
                clear hsc
                by_cases hle : i' ≤ j
                · have hlez : decide ((i' : Int) ≤ (j : Int)) = true := decide_eq_true (by omega)
                  have hl := hS.less HLess.out (x := (i' : Int)) (y := (a : Int)) i' a rfl rfl (by omega) (by omega)
                  clear hS
                  cases hlv : ltV dk[i']! dk[a]! with
                  | true =>
                    rw [hlv] at hl
                    go_wp2_with (go_at_fn 30; refine hl.mono ?_; rintro e w' ⟨rfl, hB⟩; have HS2 := Lib.hid (HS.out.below hB))
                    go_roundw
                    case rel => exact ⟨i' + 1, by go_num, by omega, by omega, HS2.out, (scanUp_go (fun x => ltV x dk[a]!) dk j i' hle (by simp [hlv])).symm.trans HSc.out⟩
                    case measure => simp [intOf]; omega
                  | false =>
                    rw [hlv] at hl
                    go_wp2_with (go_at_fn 30; refine hl.mono ?_; rintro e w' ⟨rfl, hB⟩; have HS2 := Lib.hid (HS.out.below hB))
                    go_meet
                    case rel => exact ⟨i', rfl, hii, hij', HS2.out, (scanUp_end (fun x => ltV x dk[a]!) dk j i' (Or.inr (by simp [hlv]))).symm.trans HSc.out⟩
                · have hlez : decide ((i' : Int) ≤ (j : Int)) = false := decide_eq_false (by omega)
                  clear hS
                  go_wp2_with fail
                  go_meet
                  case rel => exact ⟨i', rfl, hii, hij', HS.out, (scanUp_end (fun x => ltV x dk[a]!) dk j i' (Or.inl hle)).symm.trans HSc.out⟩
            case rest =>
              clear HS
              obtain ⟨i2, rfl, hii, hij2, hS, hi2⟩ := hcut
              have Hi2 := Lib.hid hi2
              have HS := Lib.hid hS
              clear hi2 hS
              go_upto_block 8 with (fail)
              go_cut [11] (fun s wc => ∃ (j2 : Nat), s = .int .i64 j2 ∧ j2 ≤ j ∧ i2 ≤ j2 + 1 ∧ SS w blk n db lb sf sb dk wc ∧ j2 = Sort.scanDown (fun x => !ltV x dk[a]!) dk i2 j)
              case first =>
                go_wp2_with fail
                go_loopw [11] (fun s wr => ∃ (j' : Nat), s = .int .i64 j' ∧ j' ≤ j ∧ i2 ≤ j' + 1 ∧ SS w blk n db lb sf sb dk wr ∧ Sort.scanDown (fun x => !ltV x dk[a]!) dk i2 j' = Sort.scanDown (fun x => !ltV x dk[a]!) dk i2 j) (fun s _ => (intOf s).toNat)
                case atStart => exact ⟨j, rfl, Nat.le_refl _, hij2, HS.out, rfl⟩
                case round =>
                  clear HS HE Hi2
                  obtain ⟨j', rfl, hjj, hij', hS, hsc⟩ := hrel
                  have HSc := Lib.hid hsc
                  have HS := Lib.hid hS
                  have c0 := hS.c0
                  clear hsc
                  by_cases hle : i2 ≤ j'
                  · have hlez : decide ((i2 : Int) ≤ (j' : Int)) = true := decide_eq_true (by omega)
                    have hl := hS.less HLess.out (x := (j' : Int)) (y := (a : Int)) j' a rfl rfl (by omega) (by omega)
                    clear hS
                    cases hlv : ltV dk[j']! dk[a]! with
                    | false =>
                      rw [hlv] at hl
                      go_wp2_with (go_at_fn 30; refine hl.mono ?_; rintro e w' ⟨rfl, hB⟩; have HS2 := Lib.hid (HS.out.below hB))
                      go_roundw
                      case rel => exact ⟨j' - 1, by go_num, by omega, by omega, HS2.out, (scanDown_go (fun x => !ltV x dk[a]!) dk i2 j' hle (by omega) (by simp [hlv])).symm.trans HSc.out⟩
                      case measure => simp [intOf]; omega
                    | true =>
                      rw [hlv] at hl
                      go_wp2_with (go_at_fn 30; refine hl.mono ?_; rintro e w' ⟨rfl, hB⟩; have HS2 := Lib.hid (HS.out.below hB))
                      go_meet
                      case rel => exact ⟨j', rfl, hjj, hij', HS2.out, (scanDown_end (fun x => !ltV x dk[a]!) dk i2 j' (Or.inr (by simp [hlv]))).symm.trans HSc.out⟩
                  · have hlez : decide ((i2 : Int) ≤ (j' : Int)) = false := decide_eq_false (by omega)
                    clear hS
                    go_wp2_with fail
                    go_meet
                    case rel => exact ⟨j', rfl, hjj, hij', HS.out, (scanDown_end (fun x => !ltV x dk[a]!) dk i2 j' (Or.inl hle)).symm.trans HSc.out⟩
              case rest =>
                clear HS
                obtain ⟨j2, rfl, hjj, hij3, hS, hj2⟩ := hcut
                have Hj2 := Lib.hid hj2
                have HS := Lib.hid hS
                clear hj2
                by_cases hgt : i2 > j2
                · have hgtz : decide ((i2 : Int) > (j2 : Int)) = true := decide_eq_true (by omega)
                  have hgtz2 : decide ((j2 : Int) < (i2 : Int)) = true := decide_eq_true (by omega)
                  clear hS
                  go_wp2_with fail
                  go_meet
                  case rel => exact ⟨j2, dk, rfl, by omega, by omega, HS.out, by rw [← HE.out]; exact part_break ltV a i j dk Hi2.out Hj2.out (by omega)⟩
                · have hgtz : decide ((i2 : Int) > (j2 : Int)) = false := decide_eq_false (by omega)
                  have hgtz2 : decide ((j2 : Int) < (i2 : Int)) = false := decide_eq_false (by omega)
                  have hlt3 := part_scans_lt ltV a i j dk (by omega) Hi2.out Hj2.out (by omega)
                  obtain ⟨w5, hs, hsw⟩ := hS.swaps' HSwap.out (x := (i2 : Int)) (y := (j2 : Int)) i2 j2 rfl rfl (by omega) (by omega)
                  have c1 := hS.c1
                  clear hS
                  go_wp2_with fail
                  go_roundw
                  case rel => exact ⟨i2 + 1, j2 - 1, _, by go_num, by go_num, by omega, by omega, by omega, hsw.out, by rw [← HE.out]; exact (part_go ltV a i j dk Hi2.out Hj2.out hgt).symm⟩
                  case measure => simp [intOf]; omega
        case rest =>
          obtain ⟨j9, d9, rfl, haj9, hjb9, hS, hE9⟩ := hcut
          have HE9 := Lib.hid hE9
          clear HS1 hE9
          obtain ⟨w5, hs, hsw⟩ := hS.swaps' HSwap.out (x := (j9 : Int)) (y := (a : Int)) j9 a rfl rfl (by omega) (by omega)
          have c1 := hS.c1
          clear hS
          go_wp2_with fail
          go_ret2
          rw [HF.out, HE9.out]
          exact ⟨rfl, hsw.out.st⟩
end Go.Proofs.Ytcpaejdipohndaa.V
namespace Go.Proofs.Ytcpaejdipohndaa.V
open Go.RowKit Go.Sort Go.Shelf Go.Lib Go.Maps Go.Proofs.YtcpaejdipohndaaW.PrintWords Go.Proofs.Ytcpaejdipohndaa.PAll
set_option linter.unusedVariables false
set_option maxRecDepth 100000 in
set_option maxHeartbeats 8000000 in
theorem pi_calls (lb : Array Value) (sf : Nat) (sb : Array Value) (blk a b : Nat) (d : Array Va) (w : World) (hless : LessV w blk d.size lb) (hswap : swapV sf sb blk d.size)
    (hH : HoldsK encV 3 w blk 0 d) (hblk : blk < w.heap.size) (hab : a < b) (hb : b ≤ d.size) (hsz : d.size < 4611686018427387904) :
    Calls Try.prog 63 #[.agg #[.func (.func 30) #[] lb, .func (.func sf) #[] sb], .int .i64 a, .int .i64 b] w fun e w' =>
      e = .returned (.bool (Sort.partialInsertionSort ltV d a b).2) ∧ StV w blk (Sort.partialInsertionSort ltV d a b).1 w' := by
  have eg := entersV
  have h0 : SS w blk d.size w.heap.size lb sf sb d _ := SS.start (sf := sf) (sb := sb) (lb := lb) hH hblk
  clear hH hblk
  go_enter Try.func63, Try.ntmps63
  go_wp2_with fail
  generalize (w.alloc (.cells #[.func (.func 30) #[] lb, .func (.func sf) #[] sb] 85)) = w1 at *
  generalize w.heap.size = db at *
  generalize hn : d.size = n at *
  have HLess := Lib.hid hless
  have HSwap := Lib.hid hswap
  clear hless hswap
  go_loopw [7, 8] (fun vi vs wr => ∃ (i s : Nat) (dk : Array Va), vi = .int .i64 i ∧ vs = .int .i64 s ∧ s ≤ 5 ∧ a < i ∧ i ≤ b ∧ SS w blk n db lb sf sb dk wr ∧ partialIns ltV a b (5 - s) i dk = partialIns ltV a b 5 (a + 1) d) (fun vi vs _ => 5 - (intOf vs).toNat)
  case atStart => exact ⟨a + 1, 0, d, by go_num, rfl, by omega, by omega, by omega, h0, rfl⟩
  case round =>
    clear h0
    obtain ⟨i, s, dk, rfl, rfl, hs5, hai, hib, hS, hE⟩ := hrel
    have HE := Lib.hid hE
    have HS := Lib.hid hS
    clear hE hS
    by_cases hs : s < 5
    · have hsz5 : decide ((s : Int) < 5) = true := decide_eq_true (by omega)
      go_upto_block 2 with (fail)
      go_cut [7] (fun s9 wc => ∃ (k : Nat), s9 = .int .i64 k ∧ i ≤ k ∧ k ≤ b ∧ SS w blk n db lb sf sb dk wc ∧ scanSorted ltV dk b i = k)
      case first =>
        go_wp2_with fail
        go_loopw [7] (fun s9 wr => ∃ (k : Nat), s9 = .int .i64 k ∧ i ≤ k ∧ k ≤ b ∧ SS w blk n db lb sf sb dk wr ∧ scanSorted ltV dk b k = scanSorted ltV dk b i) (fun s9 _ => b - (intOf s9).toNat)
        case atStart => exact ⟨i, rfl, Nat.le_refl _, hib, HS.out, rfl⟩
        case round =>
          clear HS HE
          obtain ⟨k, rfl, hik, hkb, hS, hsc⟩ := hrel
          have HSc := Lib.hid hsc
          have HS := Lib.hid hS
          have c0 := hS.c0
          clear hsc
          by_cases hlt : k < b
          · have hltz : decide ((k : Int) < (b : Int)) = true := decide_eq_true (by omega)
            have hl := hS.less HLess.out (x := (k : Int)) (y := (k : Int) - 1) k (k - 1) rfl (by omega) (by omega) (by omega)
            clear hS
            cases hlv : ltV dk[k]! dk[k - 1]! with
            | false =>
              rw [hlv] at hl
              go_wp2_with (go_at_fn 30; refine hl.mono ?_; rintro e w' ⟨rfl, hB⟩; have HS2 := Lib.hid (HS.out.below hB))
              go_roundw
              case rel => exact ⟨k + 1, by go_num, by omega, by omega, HS2.out, (scanSorted_go ltV dk b k hlt hlv).symm.trans HSc.out⟩
              case measure => simp [intOf]; omega
            | true =>
              rw [hlv] at hl
              go_wp2_with (go_at_fn 30; refine hl.mono ?_; rintro e w' ⟨rfl, hB⟩; have HS2 := Lib.hid (HS.out.below hB))
              go_meet
              case rel => exact ⟨k, rfl, hik, hkb, HS2.out, HSc.out.symm.trans (scanSorted_stop ltV dk b k (Or.inr hlv))⟩
          · have hltz : decide ((k : Int) < (b : Int)) = false := decide_eq_false (by omega)
            clear hS
            go_wp2_with fail
            go_meet
            case rel => exact ⟨k, rfl, hik, hkb, HS.out, HSc.out.symm.trans (scanSorted_stop ltV dk b k (Or.inl hlt))⟩
      case rest =>
        clear HS
        obtain ⟨k, rfl, hik, hkb, hS, hK⟩ := hcut
        have HK := Lib.hid hK
        have HS := Lib.hid hS
        clear hK
        by_cases hkb2 : k = b
        · subst hkb2
          clear hS
          go_wp2_with fail
          go_ret
          have hv : Sort.partialInsertionSort ltV d a k = (dk, true) := by
            unfold Sort.partialInsertionSort
            rw [← HE.out, pi_true ltV a k s i dk hs HK.out]
          rw [hv]
          exact ⟨rfl, HS.out.st⟩
        · have hkne : ((k : Int) == (b : Int)) = false := beq_eq_false_iff_ne.2 (by omega)
          have hkne2 : decide ((k : Int) = (b : Int)) = false := decide_eq_false (by omega)
          by_cases h50 : b - a < 50
          · have h50z : decide ((b : Int) - (a : Int) < 50) = true := decide_eq_true (by omega)
            clear hS
            go_wp2_with fail
            go_ret
            have hv : Sort.partialInsertionSort ltV d a b = (dk, false) := by
              unfold Sort.partialInsertionSort
              rw [← HE.out, pi_short ltV a b s i dk hs (by rw [HK.out]; exact hkb2) h50]
            rw [hv]
            exact ⟨rfl, HS.out.st⟩
          · have h50z : decide ((b : Int) - (a : Int) < 50) = false := decide_eq_false (by omega)
            obtain ⟨w5, hsw, HW⟩ := hS.swaps' HSwap.out (x := (k : Int)) (y := (k : Int) - 1) k (k - 1) rfl (by omega) (by omega) (by omega)
            have c1 := hS.c1
            clear hS HS
            obtain ⟨tv, htv⟩ : ∃ tv : Bool, decide (2 ≤ (k : Int) - (a : Int)) = tv := ⟨_, rfl⟩
            go_upto_if 47 with (fail)
            clear hsw c1
            go_cut [] (fun wc => SS w blk n db lb sf sb (fixDown ltV a k (swp dk k (k - 1))) wc)
            case first =>
              cases tv with
              | true =>
                have hka : k - a ≥ 2 := by have := of_decide_eq_true htv; omega
                clear htv
                go_wp2_with fail
                go_loopw [9] (fun s9 wr => ∃ (j : Nat) (dj : Array Va), s9 = .int .i64 j ∧ j ≤ k - 1 ∧ SS w blk n db lb sf sb dj wr ∧ shiftDown ltV j dj = shiftDown ltV (k - 1) (swp dk k (k - 1))) (fun s9 _ => (intOf s9).toNat)
                case atStart => exact ⟨k - 1, _, by congr 1; omega, Nat.le_refl _, HW.out, rfl⟩
                case round =>
                  clear HW HE HK
                  obtain ⟨j, dj, rfl, hjk, hS, hD⟩ := hrel
                  have HD := Lib.hid hD
                  have HS := Lib.hid hS
                  have c0 := hS.c0
                  clear hD
                  by_cases hj1 : 1 ≤ j
                  · have hj1z : decide ((j : Int) ≥ 1) = true := decide_eq_true (by omega)
                    have hj1y : decide (1 ≤ (j : Int)) = true := decide_eq_true (by omega)
                    have hl := hS.less HLess.out (x := (j : Int)) (y := (j : Int) - 1) j (j - 1) rfl (by omega) (by omega) (by omega)
                    clear hS
                    cases hlv : ltV dj[j]! dj[j - 1]! with
                    | true =>
                      rw [hlv] at hl
                      go_wp2_with (go_at_fn 30; refine hl.mono ?_; rintro e w' ⟨rfl, hB⟩; have hS2 := HS.out.below hB; have c12 := hS2.c1; obtain ⟨w6, hsw, HW6⟩ := hS2.swaps' HSwap.out (x := (j : Int)) (y := (j : Int) - 1) j (j - 1) rfl (by omega) (by omega) (by omega); clear hS2)
                      go_roundw
                      case rel => exact ⟨j - 1, _, by congr 1; omega, by omega, HW6.out, by rw [← HD.out, shiftDown_go ltV j dj hj1 hlv]⟩
                      case measure => simp [intOf]; omega
                    | false =>
                      rw [hlv] at hl
                      go_wp2_with (go_at_fn 30; refine hl.mono ?_; rintro e w' ⟨rfl, hB⟩; have HS2 := Lib.hid (HS.out.below hB))
                      go_meet
                      case rel =>
                        unfold fixDown
                        rw [if_pos hka, ← HD.out, shiftDown_stop ltV j dj (Or.inr hlv)]
                        exact HS2.out
                  · have hj1z : decide ((j : Int) ≥ 1) = false := decide_eq_false (by omega)
                    have hj1y : decide (1 ≤ (j : Int)) = false := decide_eq_false (by omega)
                    clear hS
                    go_wp2_with fail
                    go_meet
                    case rel =>
                      unfold fixDown
                      rw [if_pos hka, ← HD.out, shiftDown_stop ltV j dj (Or.inl (by omega))]
                      exact HS.out
              | false =>
                have hka : ¬ k - a ≥ 2 := by have := of_decide_eq_false htv; omega
                clear htv
                go_wp2_with fail
                go_meet
                case rel =>
                  unfold fixDown
                  rw [if_neg hka]
                  exact HW.out
            case rest =>
              clear HW
              have HW := Lib.hid hcut
              clear hcut
              generalize hfd : fixDown ltV a k (swp dk k (k - 1)) = dl at *
              have Hfd := Lib.hid hfd
              clear hfd
              clear htv
              by_cases hbk : b - k ≥ 2
              · have hbkz2 : decide (2 ≤ (b : Int) - (k : Int)) = true := decide_eq_true (by omega)
                go_wp2_with fail
                go_loopw [10] (fun s9 wr => ∃ (j : Nat) (dj : Array Va), s9 = .int .i64 j ∧ k + 1 ≤ j ∧ j ≤ b ∧ SS w blk n db lb sf sb dj wr ∧ shiftUp ltV b j dj = shiftUp ltV b (k + 1) dl) (fun s9 _ => b - (intOf s9).toNat)
                case atStart => exact ⟨k + 1, _, by go_num, Nat.le_refl _, by omega, HW.out, rfl⟩
                case round =>
                  clear HW
                  obtain ⟨j, dj, rfl, hjk, hjb, hS, hD⟩ := hrel
                  have HD := Lib.hid hD
                  have HS := Lib.hid hS
                  have c0 := hS.c0
                  clear hD
                  by_cases hj1 : j < b
                  · have hj1z : decide ((j : Int) < (b : Int)) = true := decide_eq_true (by omega)
                    have hl := hS.less HLess.out (x := (j : Int)) (y := (j : Int) - 1) j (j - 1) rfl (by omega) (by omega) (by omega)
                    clear hS
                    cases hlv : ltV dj[j]! dj[j - 1]! with
                    | true =>
                      rw [hlv] at hl
                      go_wp2_with (go_at_fn 30; refine hl.mono ?_; rintro e w' ⟨rfl, hB⟩; have hS2 := HS.out.below hB; have c12 := hS2.c1; obtain ⟨w6, hsw, HW6⟩ := hS2.swaps' HSwap.out (x := (j : Int)) (y := (j : Int) - 1) j (j - 1) rfl (by omega) (by omega) (by omega); clear hS2)
                      go_roundw
                      case rel => exact ⟨j + 1, _, by go_num, by omega, by omega, HW6.out, by rw [← HD.out, shiftUp_go ltV b j dj hj1 hlv]⟩
                      case measure => simp [intOf]; omega
                    | false =>
                      rw [hlv] at hl
                      go_wp2_with (go_at_fn 30; refine hl.mono ?_; rintro e w' ⟨rfl, hB⟩; have HS2 := Lib.hid (HS.out.below hB))
                      go_roundw
                      case rel => exact ⟨k, s + 1, _, rfl, by go_num, by omega, by omega, by omega, HS2.out, by rw [← HE.out, pi_go ltV a b s i k dk hs HK.out hkb2 h50, Hfd.out, show fixUp ltV b k dl = dj from by unfold fixUp; rw [if_pos hbk, ← HD.out, shiftUp_stop ltV b j dj (Or.inr hlv)]]⟩
                      case measure => simp [intOf]; omega
                  · have hj1z : decide ((j : Int) < (b : Int)) = false := decide_eq_false (by omega)
                    clear hS
                    go_wp2_with fail
                    go_roundw
                    case rel => exact ⟨k, s + 1, _, rfl, by go_num, by omega, by omega, by omega, HS.out, by rw [← HE.out, pi_go ltV a b s i k dk hs HK.out hkb2 h50, Hfd.out, show fixUp ltV b k dl = dj from by unfold fixUp; rw [if_pos hbk, ← HD.out, shiftUp_stop ltV b j dj (Or.inl hj1)]]⟩
                    case measure => simp [intOf]; omega
              · have hbkz2 : decide (2 ≤ (b : Int) - (k : Int)) = false := decide_eq_false (by omega)
                go_wp2_with fail
                go_roundw
                case rel => exact ⟨k, s + 1, _, rfl, by go_num, by omega, by omega, by omega, HW.out, by rw [← HE.out, pi_go ltV a b s i k dk hs HK.out hkb2 h50, Hfd.out, show fixUp ltV b k dl = dl from by unfold fixUp; rw [if_neg hbk]]⟩
                case measure => simp [intOf]; omega
    · have hsz5 : decide ((s : Int) < 5) = false := decide_eq_false (by omega)
      obtain rfl : s = 5 := by omega
      go_wp2_with fail
      go_ret
      have hv : Sort.partialInsertionSort ltV d a b = (dk, false) := by
        unfold Sort.partialInsertionSort
        rw [← HE.out, pi_end]
      rw [hv]
      exact ⟨rfl, HS.out.st⟩
end Go.Proofs.Ytcpaejdipohndaa.V
namespace Go.Proofs.Ytcpaejdipohndaa.V
open Go.RowKit Go.Sort Go.Shelf Go.Lib Go.Maps Go.Proofs.YtcpaejdipohndaaW.PrintWords Go.Proofs.Ytcpaejdipohndaa.PAll
set_option linter.unusedVariables false
theorem StV.sorted {w : World} {blk n : Nat} {d D : Array Va} {os : Array Obj} (hH : HoldsK encV 3 w blk 0 d) (hblk : blk < w.heap.size) (hs : D.size = d.size) : StV w blk D (sortWorldK encV 3 w blk 0 n D os) := by
  have hz : (putRowK encV 3 (Sort.ahead w n) blk 0 D).heap.size = w.heap.size := by rw [size_putRowK]; rfl
  have h1 : StV w blk D (putRowK encV 3 (Sort.ahead w n) blk 0 D) := by
    refine ⟨⟨rfl, rfl, rfl, by rw [hz]; exact Nat.le_refl _, fun k hk2 hne => ?_⟩, holdsK_putRowK encV 3 _ blk 0 d D (holdsK_ahead encV 3 w n blk 0 d hH) hs, fun cur t fr hc => ?_⟩
    · have : k ≠ blk := fun e => hne (by rw [e])
      simp [putRowK, putRow, mapBlock, Array.getElem?_modify, Ne.symm this, Sort.ahead]
    · refine ⟨putCells id 0 (flatK encV 3 D) cur, ?_, by simp [putCells]⟩
      simp [putRowK, putRow, mapBlock, Array.getElem?_modify, hc, onCells, Sort.ahead]
  exact h1.below ⟨rfl, rfl, rfl, by unfold sortWorldK; rw [size_grow]; omega, fun k hk => heap_grow_old _ _ hk⟩ (by rw [hz]; exact hblk)
theorem bp_calls (lb : Array Value) (sf : Nat) (sb : Array Value) (blk a b : Nat) (d : Array Va) (w : World) (hswap : swapV sf sb blk d.size)
    (hH : HoldsK encV 3 w blk 0 d) (hblk : blk < w.heap.size) (hab : a ≤ b) (hb : b ≤ d.size) (hsz : d.size < 4611686018427387904) :
    Calls Try.prog 60 #[.agg #[.func (.func 30) #[] lb, .func (.func sf) #[] sb], .int .i64 a, .int .i64 b] w fun e w' => e = .returned (.tuple #[]) ∧ StV w blk (breakPatterns d a b) w' :=
  (Any.breakPatterns_func_cells_w (P := Try.prog) { Try.laysGg6 with } encV 3 (fun _ => rfl) (.func 30) #[] lb sf sb blk 0 a b d w hswap hH hblk hab hb hsz).mono fun _ _ ⟨he, _, _, hw⟩ => ⟨he, by rw [hw]; exact StV.sorted hH hblk (breakPatterns_holds d a b hab hb).1⟩
theorem rr_calls (lb : Array Value) (sf : Nat) (sb : Array Value) (blk a b : Nat) (d : Array Va) (w : World) (hswap : swapV sf sb blk d.size)
    (hH : HoldsK encV 3 w blk 0 d) (hblk : blk < w.heap.size) (hab : a ≤ b) (hb : b ≤ d.size) (hsz : d.size < 4611686018427387904) :
    Calls Try.prog 62 #[.agg #[.func (.func 30) #[] lb, .func (.func sf) #[] sb], .int .i64 a, .int .i64 b] w fun e w' => e = .returned (.tuple #[]) ∧ StV w blk (reverseRange d a b) w' :=
  (Any.reverseRange_func_cells_w (P := Try.prog) { Try.laysGg6 with } encV 3 (fun _ => rfl) (.func 30) #[] lb sf sb blk 0 a b d w hswap hH hblk hab hb hsz).mono fun _ _ ⟨he, _, _, hw⟩ => ⟨he, by rw [hw]; exact StV.sorted hH hblk (reverseRange_holds d a b hab hb).1⟩
set_option maxRecDepth 1000000 in
set_option maxHeartbeats 12800000 in
theorem pdq_calls (hO : SWO ltV) (lb : Array Value) (sf : Nat) (sb : Array Value) (blk : Nat) :
    ∀ (N a b limit : Nat) (d : Array Va) (w : World), b - a < N → LessV w blk d.size lb → swapV sf sb blk d.size → HoldsK encV 3 w blk 0 d → blk < w.heap.size → a ≤ b → b ≤ d.size → d.size < 4611686018427387904 → limit < 4611686018427387904 → Go.Sort.Below ltV a b d →
    Calls Try.prog 41 #[.agg #[.func (.func 30) #[] lb, .func (.func sf) #[] sb], .int .i64 a, .int .i64 b, .int .i64 limit] w fun e w' => e = .returned (.tuple #[]) ∧ StV w blk (pdq ltV d a b limit true true) w' := by
  have eg := entersV
  intro N
  induction N with
  | zero => intro _ _ _ _ _ h; exact absurd h (Nat.not_lt_zero _)
  | succ N ih =>
    intro a b limit d w hN hless hswap hH hblk hab hb hsz hlimit hBel0
    have h0 : SS w blk d.size w.heap.size lb sf sb d _ := SS.start (sf := sf) (sb := sb) (lb := lb) hH hblk
    clear hH hblk
    have IH : Aside _ := ih
    clear ih
    go_enter Try.func41, Try.ntmps41
    go_wp2_with fail
    generalize (w.alloc (.cells #[.func (.func 30) #[] lb, .func (.func sf) #[] sb] 85)) = w1 at *
    generalize w.heap.size = db at *
    generalize hn : d.size = n at *
    have HLess := Lib.hid hless
    have HSwap := Lib.hid hswap
    clear hless hswap
    go_loopg [1, 2, 3, 8, 9] (b - a) (fun kx s1 s2 s3 s8 s9 wr => ∃ (a' b' lim : Nat) (wb wp : Bool) (dk : Array Va), s1 = .int .i64 a' ∧ s2 = .int .i64 b' ∧ s3 = .int .i64 lim ∧ s8 = .bool wb ∧ s9 = .bool wp ∧
      a' ≤ b' ∧ b' ≤ n ∧ b' - a' ≤ kx ∧ kx ≤ b - a ∧ lim ≤ limit ∧ Go.Sort.Below ltV a' b' dk ∧ SS w blk n db lb sf sb dk wr ∧ pdq ltV dk a' b' lim wb wp = pdq ltV d a b limit true true)
    case atStart => exact ⟨a, b, limit, true, true, d, rfl, rfl, rfl, rfl, rfl, hab, hb, Nat.le_refl _, Nat.le_refl _, Nat.le_refl _, hBel0, h0, rfl⟩
    case round =>
      clear h0
      obtain ⟨a', b', lim, wb, wp, dk, rfl, rfl, rfl, rfl, rfl, hab', hb', hkx, hkN, hlim, hBel, hS, heq⟩ := hrel
      have A : Aside (pdq ltV dk a' b' lim wb wp = pdq ltV d a b limit true true) := heq
      have hds := hS.sz
      have HS := Lib.hid hS
      have c0 := hS.c0
      have c1 := hS.c1
      clear heq hS
      by_cases h12 : b' - a' ≤ 12
      · have h12z : (b' : Int) - (a' : Int) ≤ 12 := by omega
        have hc := ins_calls lb sf sb blk a' b' dk wr (by rw [hds]; exact HS.out.lessV HLess.out) (by rw [hds]; exact HSwap.out) HS.out.st.2.1 HS.out.lt hab' (by omega) (by omega)
        go_wp2_with (go_at_call 58; refine hc.mono ?_; rintro e w1 ⟨rfl, hw1⟩)
        (try simp only [Exit.inBlock, Exit.then]); refine bodyPost_ret (results_none rfl _ _ _) rfl ?_
        refine ⟨rfl, ?_⟩
        rw [← A.out, Go.Sort.pdq_small h12]
        exact hw1.trans HS.out.st
      · have h12z : ¬ ((b' : Int) - (a' : Int) ≤ 12) := by omega
        by_cases hl0 : lim = 0
        · subst hl0
          have hc := hs_calls lb sf sb blk a' b' dk wr (by rw [hds]; exact HS.out.lessV HLess.out) (by rw [hds]; exact HSwap.out) HS.out.st.2.1 HS.out.lt hab' (by omega) (by omega)
          go_wp2_with (go_at_call 59; refine hc.mono ?_; rintro e w1 ⟨rfl, hw1⟩)
          (try simp only [Exit.inBlock, Exit.then]); refine bodyPost_ret (results_none rfl _ _ _) rfl ?_
          refine ⟨rfl, ?_⟩
          rw [← A.out, pdq_heap h12 rfl]
          exact hw1.trans HS.out.st
        · have hl0z : ¬ ((lim : Int) = 0) := by omega
          obtain ⟨s1, B1, hc1, s2, B2, hpv, s3, B3⟩ := rd_facts (lt := ltV) (limit := lim) (wb := wb) (wp := wp) hO partialInsertionSort_holds reverseRange_holds (show a' < b' by omega) (show b' ≤ dk.size by omega) hBel
          go_upto_if 35 with fail
          go_cut [3] (fun s3 wc => s3 = .int .i64 (rd ltV dk a' b' lim wb wp).lim ∧ SS w blk n db lb sf sb (rd ltV dk a' b' lim wb wp).d1 wc)
          case first =>
            cases wb
            · have hc := bp_calls lb sf sb blk a' b' dk wr (by rw [hds]; exact HSwap.out) HS.out.st.2.1 HS.out.lt hab' (by omega) (by omega)
              go_wp2_with (go_at_call 60; refine hc.mono ?_; rintro e w1 ⟨rfl, hw1⟩)
              go_meet
              case rel =>
                refine ⟨?_, HS.out.step hw1 (s1.trans hds)⟩
                show Value.int .i64 ((lim : Int) - 1) = Value.int .i64 ((lim - 1 : Nat) : Int)
                congr 1
                omega
            · go_wp2_with fail
              go_meet
              case rel => exact ⟨rfl, HS.out⟩
          case rest =>
            obtain ⟨rfl, hS1⟩ := hcut
            clear HS c0 c1
            have HS := Lib.hid hS1
            have c0 := hS1.c0
            have c1 := hS1.c1
            clear hS1
            have z1 := s1.trans hds
            have hcp : Calls Try.prog 61 #[.agg #[.func (.func 30) #[] lb, .func (.func sf) #[] sb], .int .i64 a', .int .i64 b'] wc fun e w' => e = .returned (.tuple #[.int .i64 (rd ltV dk a' b' lim wb wp).c.1, .int .i64 (hintCode (rd ltV dk a' b' lim wb wp).c.2)]) ∧ RowKit.Below wc.heap.size wc w' :=
              cp_calls lb sf sb blk a' b' (rd ltV dk a' b' lim wb wp).d1 wc (by rw [z1]; exact HS.out.lessV HLess.out) HS.out.st.2.1 HS.out.lt (by omega) (by omega) (by omega)
            go_upto_if 50 with (go_at_call 61; refine hcp.mono ?_; rintro e w2 ⟨rfl, hw2⟩)
            have hS2 := HS.out.below hw2
            clear HS c0 c1 hcp hw2
            have HS := Lib.hid hS2
            have c0 := hS2.c0
            have c1 := hS2.c1
            clear hS2
            go_cut [11, 12] (fun s11 s12 wc => s11 = .int .i64 (rd ltV dk a' b' lim wb wp).pivot ∧ s12 = .int .i64 (hintCode (rd ltV dk a' b' lim wb wp).hint) ∧ SS w blk n db lb sf sb (rd ltV dk a' b' lim wb wp).d2 wc)
            case first =>
              by_cases hh : (rd ltV dk a' b' lim wb wp).c.2 = .decreasing
              · have hcode : hintCode (rd ltV dk a' b' lim wb wp).c.2 = 2 := by rw [hh]; rfl
                obtain ⟨e2, epv, eht⟩ := rd_dec hh
                have hcr := rr_calls lb sf sb blk a' b' (rd ltV dk a' b' lim wb wp).d1 w2 (by rw [z1]; exact HSwap.out) HS.out.st.2.1 HS.out.lt hab' (by omega) (by omega)
                go_wp2_with (go_at_call 62; refine hcr.mono ?_; rintro e w3 ⟨rfl, hw3⟩)
                go_meet
                case rel =>
                  refine ⟨?_, by rw [eht]; rfl, by rw [e2]; exact HS.out.step hw3 (by rw [← e2, s2, hds])⟩
                  rw [epv]
                  congr 1
                  omega
              · have hcode : ¬ (hintCode (rd ltV dk a' b' lim wb wp).c.2 = 2) := fun h => hh (hintCode_two h)
                obtain ⟨e2, epv, eht⟩ := rd_not hh
                go_wp2_with fail
                go_meet
                case rel => exact ⟨by rw [epv], by rw [eht], by rw [e2]; exact HS.out⟩
            case rest =>
              obtain ⟨rfl, rfl, hS3⟩ := hcut
              clear HS c0 c1
              have HS := Lib.hid hS3
              have c0 := hS3.c0
              have c1 := hS3.c1
              clear hS3
              have z2 := s2.trans hds
              go_upto_region 16 with fail
              go_cut [12, 68] (fun s12 s68 wx => s12 = .int .i64 (hintCode (rd ltV dk a' b' lim wb wp).hint) ∧ s68 = .bool (wb && wp && decide ((rd ltV dk a' b' lim wb wp).hint = .increasing)) ∧ wx = wc)
              case first =>
                cases wb <;> cases wp <;> cases hh3 : (rd ltV dk a' b' lim _ _).hint <;>
                  (have hcode3 := congrArg hintCode hh3
                   simp only [hintCode] at hcode3
                   go_wp2_with fail
                   go_meet
                   exact ⟨by simp [hh3, hintCode], by simp [hh3, hintCode], rfl⟩)
              case rest =>
                obtain ⟨rfl, rfl, rfl⟩ := hcut
                go_upto_if 68 with fail
                go_cut [] (fun wx => (rd ltV dk a' b' lim wb wp).pi.2 = false ∧ SS w blk n db lb sf sb (rd ltV dk a' b' lim wb wp).pi.1 wx)
                case first =>
                  cases h68 : (wb && wp && decide ((rd ltV dk a' b' lim wb wp).hint = .increasing))
                  · have epi := rd_pi_no h68
                    go_wp2_with fail
                    go_meet
                    case rel => exact ⟨by rw [epi], by rw [epi]; exact HS.out⟩
                  · have epi := rd_pi_yes h68
                    have hc19 := pi_calls lb sf sb blk a' b' (rd ltV dk a' b' lim wb wp).d2 wc (by rw [z2]; exact HS.out.lessV HLess.out) (by rw [z2]; exact HSwap.out) HS.out.st.2.1 HS.out.lt (by omega) (by omega) (by omega)
                    rw [← epi] at hc19
                    go_wp2_with (go_at_call 63; refine hc19.mono ?_; rintro e w4 ⟨rfl, hw4⟩)
                    all_goals first
                      | (have hp2 : (rd ltV dk a' b' lim wb wp).pi.2 = false := by rw [epi]; assumption
                         go_meet
                         exact ⟨hp2, HS.out.step hw4 (s3.trans hds)⟩)
                      | (have hp2 : (rd ltV dk a' b' lim wb wp).pi.2 = true := by rw [epi]; assumption
                         (try simp only [Exit.inBlock, Exit.then]); refine bodyPost_ret (results_none rfl _ _ _) rfl ?_
                         refine ⟨rfl, ?_⟩
                         rw [← A.out, pdq_done h12 hl0 hp2]
                         exact hw4.trans HS.out.st)
                case rest =>
                  obtain ⟨hp2, hS5⟩ := hcut
                  clear HS c0 c1
                  have HS := Lib.hid hS5
                  have c0 := hS5.c0
                  have c1 := hS5.c1
                  clear hS5
                  have z3 := s3.trans hds
                  go_upto_region 18 with fail
                  go_cut [83] (fun s83 wx => s83 = .bool (decide (a' > 0) && !ltV (rd ltV dk a' b' lim wb wp).pi.1[a' - 1]! (rd ltV dk a' b' lim wb wp).pi.1[(rd ltV dk a' b' lim wb wp).pivot]!) ∧ SS w blk n db lb sf sb (rd ltV dk a' b' lim wb wp).pi.1 wx)
                  case first =>
                    rcases Nat.eq_zero_or_pos a' with ha0 | ha0
                    · have ha0z : decide ((a' : Int) > 0) = false := decide_eq_false (by omega)
                      go_wp2_with fail
                      go_meet
                      case rel => exact ⟨by simp [ha0], HS.out⟩
                    · have ha0z : (a' : Int) > 0 := by omega
                      have hl := HS.out.less HLess.out (x := (a' : Int) - 1) (y := ((rd ltV dk a' b' lim wb wp).pivot : Int)) (a' - 1) (rd ltV dk a' b' lim wb wp).pivot (by omega) rfl (by omega) (by omega)
                      cases hlv : ltV (rd ltV dk a' b' lim wb wp).pi.1[a' - 1]! (rd ltV dk a' b' lim wb wp).pi.1[(rd ltV dk a' b' lim wb wp).pivot]! <;>
                        (rw [hlv] at hl
                         go_wp2_with (go_at_fn 30; refine hl.mono ?_; rintro e w' ⟨rfl, hB⟩)
                         go_meet
                         exact ⟨by simp [ha0, hlv], HS.out.below hB⟩)
                  case rest =>
                    obtain ⟨rfl, hS6⟩ := hcut
                    clear HS c0 c1
                    have HS := Lib.hid hS6
                    have c0 := hS6.c0
                    have c1 := hS6.c1
                    clear hS6
                    cases h87 : (decide (a' > 0) && !ltV (rd ltV dk a' b' lim wb wp).pi.1[a' - 1]! (rd ltV dk a' b' lim wb wp).pi.1[(rd ltV dk a' b' lim wb wp).pivot]!)
                    · obtain ⟨mid, ap, d4, hx⟩ : ∃ mid ap d4, partition ltV (rd ltV dk a' b' lim wb wp).pi.1 a' b' (rd ltV dk a' b' lim wb wp).pivot = (mid, ap, d4) := ⟨_, _, _, rfl⟩
                      obtain ⟨r1, r2, r3, r4, r5, r6, r7⟩ := round_part hO (partition_holds ltV) hpv.1 hpv.2 (show b' ≤ (rd ltV dk a' b' lim wb wp).pi.1.size by omega) B3 hx
                      have hc22 := pt_calls lb sf sb blk a' b' (rd ltV dk a' b' lim wb wp).pivot (rd ltV dk a' b' lim wb wp).pi.1 wc (by rw [z3]; exact HS.out.lessV HLess.out) (by rw [z3]; exact HSwap.out) HS.out.st.2.1 HS.out.lt hpv.1 hpv.2 (by omega) (by omega)
                      rw [hx] at hc22
                      have X : Aside (partition ltV (rd ltV dk a' b' lim wb wp).pi.1 a' b' (rd ltV dk a' b' lim wb wp).pivot = (mid, ap, d4)) := hx
                      clear hx
                      go_upto_if 109 with (go_at_call 65; refine hc22.mono ?_; rintro e w7 ⟨rfl, hw7⟩)
                      have hx := X.out
                      have hs4 : d4.size = n := r3.trans z3
                      have hS7 : SS w blk n db lb sf sb d4 w7 := HS.out.step hw7 hs4
                      clear HS c0 c1 hc22 hw7
                      have HS := Lib.hid hS7
                      have c0 := hS7.c0
                      have c1 := hS7.c1
                      clear hS7
                      by_cases h4 : mid - a' < b' - mid
                      · have h4z : (mid : Int) - (a' : Int) < (b' : Int) - (mid : Int) := by omega
                        have hih := IH.out a' mid (rd ltV dk a' b' lim wb wp).lim d4 w7 (by omega) (by rw [hs4]; exact HS.out.lessV HLess.out) (by rw [hs4]; exact HSwap.out) HS.out.st.2.1 HS.out.lt (by omega) (by omega) (by omega) (Nat.lt_of_le_of_lt (Nat.le_trans rd_lim_le hlim) hlimit) r4
                        obtain ⟨pL, sL⟩ := pdq_sorts ltV hO d4 a' mid (rd ltV dk a' b' lim wb wp).lim true true (by omega) (by omega) r4
                        go_wp2_with (go_at_call 41; refine hih.mono ?_; rintro e w8 ⟨rfl, hw8⟩)
                        go_roundg (b' - (mid + 1))
                        case measure => omega
                        case rel =>
                          refine ⟨mid + 1, b', (rd ltV dk a' b' lim wb wp).lim, decide (mid - a' ≥ (b' - a') / 8), ap, pdq ltV d4 a' mid (rd ltV dk a' b' lim wb wp).lim true true, by simp, rfl, rfl, ?_, rfl, by omega, by omega, Nat.le_refl _, by omega, Nat.le_trans rd_lim_le hlim, (r6 _ pL sL).1, HS.out.step hw8 (pL.1.trans hs4), ?_⟩
                          · exact congrArg Value.bool (eighth (by omega) (by omega))
                          · rw [← A.out, pdq_left h12 hl0 hp2 h87 (by rw [hx]; exact ⟨r1, r2⟩) (by rw [hx]; exact h4), hx]
                      · have h4z : ¬ ((mid : Int) - (a' : Int) < (b' : Int) - (mid : Int)) := by omega
                        have hih := IH.out (mid + 1) b' (rd ltV dk a' b' lim wb wp).lim d4 w7 (by omega) (by rw [hs4]; exact HS.out.lessV HLess.out) (by rw [hs4]; exact HSwap.out) HS.out.st.2.1 HS.out.lt (by omega) (by omega) (by omega) (Nat.lt_of_le_of_lt (Nat.le_trans rd_lim_le hlim) hlimit) r5
                        rw [show ((mid + 1 : Nat) : Int) = (mid : Int) + 1 by omega] at hih
                        obtain ⟨pL, sL⟩ := pdq_sorts ltV hO d4 (mid + 1) b' (rd ltV dk a' b' lim wb wp).lim true true (by omega) (by omega) r5
                        go_wp2_with (go_at_call 41; refine hih.mono ?_; rintro e w8 ⟨rfl, hw8⟩)
                        go_roundg (mid - a')
                        case measure => omega
                        case rel =>
                          refine ⟨a', mid, (rd ltV dk a' b' lim wb wp).lim, decide (b' - mid ≥ (b' - a') / 8), ap, pdq ltV d4 (mid + 1) b' (rd ltV dk a' b' lim wb wp).lim true true, rfl, rfl, rfl, ?_, rfl, by omega, by omega, Nat.le_refl _, by omega, Nat.le_trans rd_lim_le hlim, (r7 _ pL sL).1, HS.out.step hw8 (pL.1.trans hs4), ?_⟩
                          · exact congrArg Value.bool (eighth (by omega) (by omega))
                          · rw [← A.out, pdq_right h12 hl0 hp2 h87 (by rw [hx]; exact ⟨r1, r2⟩) (by rw [hx]; exact h4), hx]
                    · have h87' := h87
                      simp only [Bool.and_eq_true, decide_eq_true_eq, Bool.not_eq_true'] at h87'
                      obtain ⟨mid, d4, hx⟩ : ∃ mid d4, partitionEqual ltV (rd ltV dk a' b' lim wb wp).pi.1 a' b' (rd ltV dk a' b' lim wb wp).pivot = (mid, d4) := ⟨_, _, rfl⟩
                      obtain ⟨r1, r2, r3, r4, _⟩ := round_eq hO (partitionEqual_holds ltV) h87'.1 hpv.1 hpv.2 (show b' ≤ (rd ltV dk a' b' lim wb wp).pi.1.size by omega) B3 h87'.2 hx
                      have hc21 := pe_calls lb sf sb blk a' b' (rd ltV dk a' b' lim wb wp).pivot (rd ltV dk a' b' lim wb wp).pi.1 wc (by rw [z3]; exact HS.out.lessV HLess.out) (by rw [z3]; exact HSwap.out) HS.out.st.2.1 HS.out.lt hpv.1 hpv.2 (by omega) (by omega)
                      rw [hx] at hc21
                      have X : Aside (partitionEqual ltV (rd ltV dk a' b' lim wb wp).pi.1 a' b' (rd ltV dk a' b' lim wb wp).pivot = (mid, d4)) := hx
                      clear hx
                      go_wp2_with (go_at_call 64; refine hc21.mono ?_; rintro e w7 ⟨rfl, hw7⟩)
                      go_roundg (b' - mid)
                      case measure => omega
                      case rel =>
                        have hx := X.out
                        exact ⟨mid, b', (rd ltV dk a' b' lim wb wp).lim, wb, wp, d4, rfl, rfl, rfl, rfl, rfl, r2, hb', Nat.le_refl _, by omega, Nat.le_trans rd_lim_le hlim, r4, HS.out.step hw7 (r3.trans z3), by rw [← A.out, pdq_eq h12 hl0 hp2 h87 (by rw [hx]; exact ⟨r1, r2⟩), hx]⟩
set_option maxRecDepth 100000 in
set_option maxHeartbeats 2000000 in
theorem sorts_all (hO : SWO ltV) (n : Nat) (h2 : 2 ≤ n) (hn : n < 4611686018427387904) : SortsTo n := by
  intro w B blk c d hB hne hH hblk hs
  have hf : Try.prog.funcs.findIdx? (·.name == "internal/reflectlite" ++ ".Swapper$" ++ toString (swapperK n eEV 25)) = some 55 := by rw [eKV _ h2]; kernel_rfl
  refine Any.sort_Slice_of_pdq Try.laysGg6 43 24 eTV eEV (by kernel_rfl) (by kernel_rfl) (by kernel_rfl) (by kernel_rfl) 25 (fun _ => by kernel_rfl) _ n c (by omega) 55 hf (.func 30) #[] #[.pointer (some ⟨B, 0, none⟩)] w _ ?_
  have hBd : sliceBound Try.prog 24 eEV 25 (some ⟨blk, 0, none⟩) n c = #[.slice (some ⟨blk, 0, none⟩) n c, typeHandle Try.prog 24] := by
    unfold sliceBound; rw [if_neg (swapperK_gt _ _ _ h2)]
  have hW : RowKit.Below w.heap.size w (sliceWorld Try.prog Try.laysGg6_ren 43 (some ⟨blk, 0, none⟩) n c w) := by
    unfold sliceWorld; exact ((Below.refl _ w).alloc (Nat.le_refl _) _).alloc (by simp) _
  rw [hBd]
  have h0 : StV w blk d w := .self hH
  have h1 := h0.below hW hblk
  have hless := (lessV_holds hB hne (by omega)).from h1
  have hsw := swapSwapsK_of_literal (P := Try.prog) false 55 (fun args W => run_callFunc_extern Try.func55 (by kernel_rfl) (by kernel_rfl) (by kernel_rfl) (e := Extern.ReflectliteSwapper.swap false) (by kernel_rfl) args W) 24 eEV (by kernel_rfl) encV 3 (fun _ => rfl) (by kernel_rfl) (fun _ => by kernel_rfl)
    (fun x v hv => by simp [encV] at hv; rcases hv with rfl | rfl | rfl <;> rfl) blk 0 n c
  subst hs
  have hlim : Lib.bitLen d.size < 4611686018427387904 := Nat.lt_of_le_of_lt (Lib.bitLen_le d.size 62 (by omega) (by omega)) (by omega)
  have hp := pdq_calls hO _ _ _ blk (d.size + 1) 0 d.size (Lib.bitLen d.size) d _ (by omega) hless hsw h1.2.1 (h1.lt (by exact hblk)) (Nat.zero_le _) (Nat.le_refl _) hn hlim (Or.inl rfl)
  refine Calls.mono hp ?_
  rintro e w' ⟨rfl, hst⟩
  have h := pdq_sorts ltV hO d 0 d.size (Lib.bitLen d.size) true true (Nat.zero_le _) (Nat.le_refl _) (Or.inl rfl)
  exact ⟨rfl, _, h.1, h.2, hst.trans h1⟩
end Go.Proofs.Ytcpaejdipohndaa.V

/- Words: the order that Values sorts by: a closure that lays blocks; the state of a sort whose order lays blocks. Words: sort.insertionSort_func over values, by an order that lays blocks. Words: the order of values is strict and whole; a row of unlike values sorted is one. Words: sort.Slice over at most twelve values, by an order that lays blocks. Words: the state of a sort with its box; sort.siftDown_func and sort.heapSort_func by an order that lays blocks. Words: sort.partitionEqual_func and sort.partition_func by an order that lays blocks. -/
import Derived.Test.YtcpaejdipohndaaVA
import Derived.Shelf.GgSortFunc.Tiny
import Derived.Shelf.SlSortFuncK.WholeK
import Derived.Shelf.SlSortFuncK.HeapSortK
import Derived.Shelf.SlSortFuncK.PartitionK
namespace Go.Proofs.Ytcpaejdipohndaa.V
open Go.RowKit Go.Sort Go.Shelf Go.Lib Go.Maps Go.Proofs.YtcpaejdipohndaaW.PrintWords Go.Proofs.Ytcpaejdipohndaa.PAll
set_option linter.unusedVariables false
instance : Inhabited Va := ⟨z24⟩
def encV (x : Va) : List Value := [.int .i64 x.f0, .int .i64 x.f1, .string x.f2]
def ltV (a b : Va) : Bool := decide (cmpV a b < 0)
set_option maxRecDepth 100000 in
set_option maxHeartbeats 2000000 in
theorem less_calls (blk off c B size : Nat) (W : World) (dk : Array Va) (hs : W.cell? ⟨B, 0, none⟩ = some (.slice (some ⟨blk, off, none⟩) size c))
    (hc : ∀ t, t < size → W.cell? ⟨blk, off + t * 3, none⟩ = some (.int .i64 dk[t]!.f0) ∧ W.cell? ⟨blk, off + t * 3 + 1, none⟩ = some (.int .i64 dk[t]!.f1) ∧ W.cell? ⟨blk, off + t * 3 + 2, none⟩ = some (.string dk[t]!.f2))
    (i j : Nat) (hi : i < size) (hj : j < size) (hsz : size < 4611686018427387904) :
    Calls Try.prog 30 #[.int .i64 i, .int .i64 j, .pointer (some ⟨B, 0, none⟩)] W fun e w' => e = .returned (.bool (ltV dk[i]! dk[j]!)) ∧ Below W.heap.size W w' := by
  obtain ⟨i0, i1, i2⟩ := hc i hi
  obtain ⟨j0, j1, j2⟩ := hc j hj
  have C := fun W' => compare_calls dk[i]! dk[j]! W'
  have HL : Hid (ltV dk[i]! dk[j]! = decide (cmpV dk[i]! dk[j]! < 0)) := Lib.hid rfl
  clear hc
  generalize dk[i]! = x at i0 i1 i2 C HL ⊢
  generalize dk[j]! = y at j0 j1 j2 C HL ⊢
  generalize ltV x y = r at HL ⊢
  generalize cmpV x y = cv at C HL
  have p1 := eq_true (show (0 : Int) ≤ (i : Int) by omega)
  have p2 := eq_true (show (i : Int) < (size : Int) by omega)
  have p3 : (i < size) = True := eq_true hi
  have p4 := eq_true (show (0 : Int) ≤ (j : Int) by omega)
  have p5 := eq_true (show (j : Int) < (size : Int) by omega)
  have p6 : (j < size) = True := eq_true hj
  have p7 : decide ((i : Int) < 0) = false := decide_eq_false (by omega)
  have p8 : decide ((j : Int) < 0) = false := decide_eq_false (by omega)
  go_enter Try.func30, Try.ntmps30
  go_wp2_with fail
  refine still_tail 8 (by kernel_rfl) (by kernel_rfl) ?_
  simp only [List.take_succ_cons, List.take_zero, List.drop_succ_cons, List.drop_zero]
  still_step
  still_step
  still_step
  still_step
  still_step
  still_step
  still_step
  still_step
  refine wpStill_nil ?_
  go_wp2_with (go_at_call 31; refine (C _).mono ?_; rintro e W1 ⟨rfl, q, os', rfl⟩)
  go_ret
  exact ⟨by rw [HL.out]; rfl, ⟨rfl, rfl, rfl, by simp, fun k hk => heap_grow_old _ _ hk⟩⟩
/-- The state of a sort: the row holds dk, its block is as long as it was, nothing else that lay in w has turned. -/
def StV (w : World) (blk : Nat) (dk : Array Va) (W : World) : Prop := w.grownBy W (some blk) ∧ HoldsK encV 3 W blk 0 dk ∧ ∀ cur t fr, w.heap[blk]? = some (.cells cur t fr) → ∃ cur', W.heap[blk]? = some (.cells cur' t fr) ∧ cur'.size = cur.size
theorem StV.self {w : World} {blk : Nat} {dk : Array Va} (h : HoldsK encV 3 w blk 0 dk) : StV w blk dk w := ⟨⟨rfl, rfl, rfl, Nat.le_refl _, fun _ _ _ => rfl⟩, h, fun cur _ _ h => ⟨cur, h, rfl⟩⟩
theorem grown_tr {A B C : World} {row : Option Nat} (h : A.grownBy B row) (k : B.grownBy C row) : A.grownBy C row :=
  ⟨k.os.trans h.os, k.tape.trans h.tape, k.output.trans h.output, Nat.le_trans h.size k.size, fun j hj hn => (k.block j (Nat.lt_of_lt_of_le hj h.size) hn).trans (h.block j hj hn)⟩
theorem grown_bel {W W' : World} {row : Option Nat} (hb : Below W.heap.size W W') : W.grownBy W' row := ⟨hb.os, hb.tape, hb.output, hb.size, fun k hk _ => hb.block k hk⟩
theorem StV.below {w W W' : World} {blk : Nat} {dk : Array Va} (h : StV w blk dk W) (hb : Below W.heap.size W W') (hlt : blk < W.heap.size) : StV w blk dk W' := by
  refine ⟨grown_tr h.1 (grown_bel hb), fun j hj => ?_, fun cur t fr hc => ?_⟩
  · obtain ⟨h1, h2⟩ := h.2.1 j hj
    exact ⟨(World.cell?_of_block (hb.block blk hlt)).trans h1, (World.frozen?_of_block (hb.block blk hlt)).trans h2⟩
  · obtain ⟨cur', h1, h2⟩ := h.2.2 cur t fr hc
    exact ⟨cur', (hb.block blk hlt).trans h1, h2⟩
theorem StV.lt {w W : World} {blk : Nat} {dk : Array Va} (h : StV w blk dk W) (hlt : blk < w.heap.size) : blk < W.heap.size := Nat.lt_of_lt_of_le hlt h.1.size
theorem StV.trans {w w1 W : World} {blk : Nat} {dk dk0 : Array Va} (h : StV w1 blk dk W) (hg : StV w blk dk0 w1) : StV w blk dk W := ⟨grown_tr hg.1 h.1, h.2.1, fun cur t fr hc => by
  obtain ⟨c1, h1, h2⟩ := hg.2.2 cur t fr hc
  obtain ⟨c2, h3, h4⟩ := h.2.2 c1 t fr h1
  exact ⟨c2, h3, h4.trans h2⟩⟩
theorem StV.swap {w W : World} {blk : Nat} {dk : Array Va} (h : StV w blk dk W) {i j : Nat} (hi : i < dk.size) (hj : j < dk.size) : StV w blk (swp dk i j) ((W.setCells blk (0 + i * 3) (encV dk[j]!)).setCells blk (0 + j * 3) (encV dk[i]!)) := by
  have hk : ∀ x, (encV x).length = 3 := fun _ => rfl
  have e := swap_worldK encV 3 hk W 0 0 blk 0 dk i j hi hj
  have e0 : putRowK encV 3 (Sort.ahead W 0) blk 0 dk = W := putRowK_self encV 3 W blk 0 dk h.2.1
  have e1 : (putRowK encV 3 (Sort.ahead W 0) blk 0 dk).drewN 0 = W := by rw [e0]; rfl
  rw [e1] at e
  rw [e]
  have e2 : Sort.ahead W (0 + 0) = W := rfl
  rw [e2]
  refine ⟨grown_tr h.1 ⟨rfl, rfl, rfl, by simp [putRowK, putRow, mapBlock], fun k hk2 hne => ?_⟩, holdsK_putRowK encV 3 W blk 0 dk _ h.2.1 (size_swp _ _ _), fun cur t fr hc => ?_⟩
  · have : k ≠ blk := fun e => hne (by rw [e])
    simp [putRowK, putRow, mapBlock, Array.getElem?_modify, Ne.symm this]
  · obtain ⟨c1, h1, h2⟩ := h.2.2 cur t fr hc
    exact ⟨_, by simp [putRowK, putRow, mapBlock, Array.getElem?_modify, h1, onCells]; rfl, by simp [putCells, h2]⟩
theorem StV.cells {w W : World} {blk : Nat} {dk : Array Va} (h : StV w blk dk W) {t : Nat} (ht : t < dk.size) :
    W.cell? ⟨blk, 0 + t * 3, none⟩ = some (.int .i64 dk[t]!.f0) ∧ W.cell? ⟨blk, 0 + t * 3 + 1, none⟩ = some (.int .i64 dk[t]!.f1) ∧ W.cell? ⟨blk, 0 + t * 3 + 2, none⟩ = some (.string dk[t]!.f2) :=
  ⟨(h.2.1.cell (c := 0) ht (by omega)).1, (h.2.1.cell (c := 1) ht (by omega)).1, (h.2.1.cell (c := 2) ht (by omega)).1⟩
end Go.Proofs.Ytcpaejdipohndaa.V
namespace Go.Proofs.Ytcpaejdipohndaa.V
open Go.RowKit Go.Sort Go.Shelf Go.Lib Go.Maps Go.Proofs.YtcpaejdipohndaaW.PrintWords Go.Proofs.Ytcpaejdipohndaa.PAll
set_option linter.unusedVariables false
/-- The order, asked in whatever world the sort passes through. -/
def LessV (w : World) (blk n : Nat) (lb : Array Value) : Prop := ∀ (W : World) (dk : Array Va), StV w blk dk W → dk.size = n → ∀ i j : Nat, i < n → j < n →
  Calls Try.prog 30 (#[.int .i64 i, .int .i64 j] ++ lb) W fun e w' => e = .returned (.bool (ltV dk[i]! dk[j]!)) ∧ Below W.heap.size W w'
theorem LessV.from {w w1 : World} {blk n : Nat} {lb : Array Value} {d0 : Array Va} (h : LessV w blk n lb) (hg : StV w blk d0 w1) : LessV w1 blk n lb := fun W dk hst hs i j hi hj => h W dk (hst.trans hg) hs i j hi hj
abbrev swapV (sf : Nat) (sb : Array Value) (blk n : Nat) : Prop := SwapSwapsK Try.prog sf sb encV 3 blk 0 n
def dataV (lb : Array Value) (sf : Nat) (sb : Array Value) : Array Value := #[.func (.func 30) #[] lb, .func (.func sf) #[] sb]
set_option maxRecDepth 100000 in
set_option maxHeartbeats 2000000 in
theorem ins_calls (lb : Array Value) (sf : Nat) (sb : Array Value) (blk a b : Nat) (d : Array Va) (w : World) (hless : LessV w blk d.size lb) (hswap : swapV sf sb blk d.size)
    (hH : HoldsK encV 3 w blk 0 d) (hblk : blk < w.heap.size) (hab : a ≤ b) (hb : b ≤ d.size) (hsz : d.size < 4611686018427387904) :
    Calls Try.prog 58 #[.agg #[.func (.func 30) #[] lb, .func (.func sf) #[] sb], .int .i64 a, .int .i64 b] w fun e w' =>
      e = .returned (.tuple #[]) ∧ StV w blk (Sort.insertionSort ltV d a b) w' := by
  have eg : ∀ args w, (callFunc 30 args).run Try.prog w = .ok (.enter 30 args) w := enters_of Try.func30 (by kernel_rfl) rfl
  have hb1 : Below w.heap.size w (w.alloc (.cells #[.func (.func 30) #[] lb, .func (.func sf) #[] sb] 85)) := (Below.refl _ w).alloc (Nat.le_refl _) _
  have h0 : StV w blk d w := .self hH
  have h1 := h0.below hb1 hblk
  have hD1 := World.alloc_heap_new w (.cells #[.func (.func 30) #[] lb, .func (.func sf) #[] sb] 85)
  have hz1 : (w.alloc (.cells #[.func (.func 30) #[] lb, .func (.func sf) #[] sb] 85)).heap.size = w.heap.size + 1 := by simp
  go_enter Try.func58, Try.ntmps58
  go_wp2_with fail
  generalize (w.alloc (.cells #[.func (.func 30) #[] lb, .func (.func sf) #[] sb] 85)) = w1 at *
  have hne : w.heap.size ≠ blk := by omega
  have hdb : w.heap.size < w1.heap.size := by omega
  have HG1 := Lib.hid h1
  have h11 : StV w1 blk d w1 := .self h1.2.1
  have HLess := Lib.hid hless
  have HSwap := Lib.hid hswap
  have Hblk : blk < w1.heap.size := by omega
  clear h0 h1 hb1 hH hless hswap
  generalize w.heap.size = db at *
  go_loopw [6] (fun vi wr => ∃ (i : Nat) (dk : Array Va), vi = .int .i64 i ∧ a < i ∧ i ≤ b + 1 ∧ dk.size = d.size ∧ StV w1 blk dk wr ∧ insOuter ltV a b i dk = insOuter ltV a b (a + 1) d) (fun vi _ => b + 1 - (intOf vi).toNat)
  case atStart => exact ⟨a + 1, d, by go_num, by omega, by omega, rfl, h11, rfl⟩
  case round =>
    clear h11
    obtain ⟨i, dk, rfl, hai, hib, hsk, hst, hO⟩ := hrel
    have HO := Lib.hid hO
    clear hO
    by_cases hlt : i < b
    · have hlt' : decide ((i : Int) < (b : Int)) = true := decide_eq_true (by omega)
      go_wp2_with fail
      go_loopw [7] (fun vj wr2 => ∃ (j : Nat) (dj : Array Va), vj = .int .i64 j ∧ a ≤ j ∧ j ≤ i ∧ dj.size = d.size ∧ StV w1 blk dj wr2 ∧ insInner ltV a j dj = insInner ltV a i dk) (fun vj _ => (intOf vj).toNat)
      case atStart => exact ⟨i, dk, rfl, by omega, Nat.le_refl _, hsk, hst, rfl⟩
      case round =>
        clear hst
        obtain ⟨j, dj, rfl, haj, hji, hsj, hst, hI⟩ := hrel
        have hdc := (hst.1.block db hdb (fun e => hne (by injection e))).trans hD1
        have c0 : wr.cell? ⟨db, 0, none⟩ = some (.func (.func 30) #[] lb) := by simp [World.cell?, hdc]
        have HI := Lib.hid hI
        clear hI
        by_cases hja : a < j
        · have hja' : decide ((j : Int) > (a : Int)) = true := decide_eq_true (by omega)
          have hja2 : decide ((a : Int) < (j : Int)) = true := decide_eq_true (by omega)
          have hl := HLess.out wr dj (hst.trans HG1.out) hsj j (j - 1) (by omega) (by omega)
          rw [show (((j - 1 : Nat) : Int)) = (j : Int) - 1 by omega] at hl
          have hblk2 := hst.lt Hblk
          cases hlv : ltV dj[j]! dj[j - 1]! with
          | true =>
            rw [hlv] at hl
            have HST := Lib.hid hst
            have HHD := Lib.hid hdc
            clear hst hdc
            go_wp2_with (go_at_fn 30; refine hl.mono ?_; rintro e w' ⟨rfl, hB⟩; have hst2 := HST.out.below hB hblk2; have hs := HSwap.out w' dj hst2.2.1 hsj j (j - 1) (by omega) (by omega); rw [show (((j - 1 : Nat) : Int)) = (j : Int) - 1 by omega] at hs; have c1 : w'.cell? ⟨db, 1, none⟩ = some (.func (.func sf) #[] sb) := (by have hd2 := (hB.block db (by have := HST.out.1.size; omega)).trans HHD.out; simp [World.cell?, hd2]))
            have hsw := hst2.swap (i := j) (j := j - 1) (by omega) (by omega)
            simp only [Nat.zero_add] at hsw
            go_roundw
            case rel => exact ⟨j - 1, swp dj j (j - 1), by congr 1 <;> omega, by omega, by omega, by rw [size_swp]; exact hsj, hsw, by rw [← HI.out, insInner_go ltV a j dj hja hlv]⟩
            case measure => simp [intOf]; omega
          | false =>
            rw [hlv] at hl
            have HST := Lib.hid hst
            clear hst hdc
            go_wp2_with (go_at_fn 30; refine hl.mono ?_; rintro e w' ⟨rfl, hB⟩; have hst2 := HST.out.below hB hblk2)
            go_roundw
            case rel => exact ⟨i + 1, dj, by go_num, by omega, by omega, hsj, hst2, by rw [← HO.out, insOuter_go _ _ _ _ _ hlt, ← HI.out, insInner_stop _ _ _ _ (Or.inr hlv)]⟩
            case measure => simp [intOf]; omega
        · have hja' : decide ((j : Int) > (a : Int)) = false := decide_eq_false (by omega)
          have hja2 : decide ((a : Int) < (j : Int)) = false := decide_eq_false (by omega)
          go_wp2_with fail
          go_roundw
          case rel => exact ⟨i + 1, dj, by go_num, by omega, by omega, hsj, hst, by rw [← HO.out, insOuter_go _ _ _ _ _ hlt, ← HI.out, insInner_stop _ _ _ _ (Or.inl (by omega))]⟩
          case measure => simp [intOf]; omega
    · have hlt' : decide ((i : Int) < (b : Int)) = false := decide_eq_false (by omega)
      go_wp2_with fail
      go_end0
      refine ⟨rfl, ?_⟩
      have : Sort.insertionSort ltV d a b = dk := by unfold Sort.insertionSort; rw [← HO.out, insOuter_stop _ _ _ _ _ hlt]
      rw [this]
      exact hst.trans HG1.out
end Go.Proofs.Ytcpaejdipohndaa.V
namespace Go.Proofs.Ytcpaejdipohndaa.V
open Go.RowKit Go.Sort Go.Shelf Go.Lib Go.Maps
set_option linter.unusedVariables false
set_option linter.unusedSimpArgs false
theorem orI_iff (x y t : Int) : orI (cmpI x y) t < 0 ↔ x < y ∨ (x = y ∧ t < 0) := by
  unfold orI cmpI
  rcases Int.lt_trichotomy x y with h | h | h
  · simp [h]
  · subst h; simp
  · have h1 : ¬ x < y := by omega
    have h2 : x ≠ y := by omega
    simp [h1, h2, h]
theorem cmpS_iff (x y : ByteArray) : cmpS x y < 0 ↔ x.toList < y.toList := by
  unfold cmpS
  rw [bytesLess_eq]
  by_cases h : x.toList < y.toList
  · simp [h]
  · simp only [h, decide_false, Bool.false_eq_true, if_false, iff_false]
    split <;> decide
theorem ltV_iff (a b : Va) : ltV a b = true ↔ a.f0 < b.f0 ∨ (a.f0 = b.f0 ∧ (a.f1 < b.f1 ∨ (a.f1 = b.f1 ∧ a.f2.toList < b.f2.toList))) := by
  unfold ltV cmpV
  rw [decide_eq_true_eq, orI_iff, orI_iff, cmpS_iff]
theorem listLt (x y z : List UInt8) (h : x < z) : x < y ∨ y < z := by
  by_cases h1 : x < y
  · exact .inl h1
  · exact .inr (List.lt_of_le_of_lt (List.not_lt.1 h1) h)
theorem swo_ltV : SWO ltV where
  irrefl := fun x => by
    cases h : ltV x x with
    | false => rfl
    | true =>
      rw [ltV_iff] at h
      have := List.lt_irrefl x.f2.toList
      rcases h with h | ⟨_, h | ⟨_, h⟩⟩
      · omega
      · omega
      · exact absurd h this
  trans := fun x y z h1 h2 => by
    rw [ltV_iff] at h1 h2 ⊢
    rcases h1 with h1 | ⟨e1, h1 | ⟨f1, h1⟩⟩ <;> rcases h2 with h2 | ⟨e2, h2 | ⟨f2, h2⟩⟩
    · exact .inl (by omega)
    · exact .inl (by omega)
    · exact .inl (by omega)
    · exact .inl (by omega)
    · exact .inr ⟨by omega, .inl (by omega)⟩
    · exact .inr ⟨by omega, .inl (by omega)⟩
    · exact .inl (by omega)
    · exact .inr ⟨by omega, .inl (by omega)⟩
    · exact .inr ⟨by omega, .inr ⟨by omega, List.lt_trans h1 h2⟩⟩
  ntrans := fun x y z h1 h2 => by
    cases h : ltV x z with
    | false => rfl
    | true =>
      exfalso
      have n1 : ¬ (x.f0 < y.f0 ∨ (x.f0 = y.f0 ∧ (x.f1 < y.f1 ∨ (x.f1 = y.f1 ∧ x.f2.toList < y.f2.toList)))) := fun e => by rw [← ltV_iff, h1] at e; cases e
      have n2 : ¬ (y.f0 < z.f0 ∨ (y.f0 = z.f0 ∧ (y.f1 < z.f1 ∨ (y.f1 = z.f1 ∧ y.f2.toList < z.f2.toList)))) := fun e => by rw [← ltV_iff, h2] at e; cases e
      rw [ltV_iff] at h
      rw [not_or, not_and, not_or, not_and] at n1 n2
      obtain ⟨a1, a2⟩ := n1
      obtain ⟨b1, b2⟩ := n2
      rcases h with h | ⟨e, h | ⟨f, h⟩⟩
      · omega
      · have e1 : x.f0 = y.f0 := by omega
        have e2 : y.f0 = z.f0 := by omega
        have := (a2 e1).1
        have := (b2 e2).1
        omega
      · have e1 : x.f0 = y.f0 := by omega
        have e2 : y.f0 = z.f0 := by omega
        obtain ⟨a3, a4⟩ := a2 e1
        obtain ⟨b3, b4⟩ := b2 e2
        have f1 : x.f1 = y.f1 := by omega
        have f2 : y.f1 = z.f1 := by omega
        rcases listLt _ y.f2.toList _ h with h | h
        · exact a4 f1 h
        · exact b4 f2 h
end Go.Proofs.Ytcpaejdipohndaa.V
namespace Go.Proofs.Ytcpaejdipohndaa.V
open Go.RowKit Go.Sort Go.Shelf Go.Lib Go.Maps Go.Proofs.YtcpaejdipohndaaW.PrintWords Go.Proofs.Ytcpaejdipohndaa.PAll
set_option linter.unusedVariables false
set_option maxRecDepth 100000 in
set_option maxHeartbeats 2000000 in
theorem pdq_small (lb : Array Value) (sf : Nat) (sb : Array Value) (blk a b : Nat) (lim : Int) (d : Array Va) (w : World) (hless : LessV w blk d.size lb) (hswap : swapV sf sb blk d.size)
    (hH : HoldsK encV 3 w blk 0 d) (hblk : blk < w.heap.size) (hab : a ≤ b) (hb : b ≤ d.size) (hsz : d.size < 4611686018427387904) (h12 : b - a ≤ 12) :
    Calls Try.prog 41 #[.agg #[.func (.func 30) #[] lb, .func (.func sf) #[] sb], .int .i64 a, .int .i64 b, .int .i64 lim] w fun e w' =>
      e = .returned (.tuple #[]) ∧ StV w blk (Sort.insertionSort ltV d a b) w' := by
  have hb1 : Below w.heap.size w (w.alloc (.cells #[.func (.func 30) #[] lb, .func (.func sf) #[] sb] 85)) := (Below.refl _ w).alloc (Nat.le_refl _) _
  have h0 : StV w blk d w := .self hH
  have h1 := h0.below hb1 hblk
  have hi := ins_calls lb sf sb blk a b d _ (hless.from h1) hswap h1.2.1 (Nat.lt_of_lt_of_le hblk hb1.size) hab hb hsz
  have HG1 := Lib.hid h1
  have hd : decide ((b : Int) - (a : Int) ≤ 12) = true := decide_eq_true (by omega)
  clear h0 h1 hless hswap hH hb1
  go_enter Try.func41, Try.ntmps41
  go_wp2_with fail
  refine wp_loop_rounds 1 ?_
  rw [rounds_succ]
  go_wp2_with (go_at_call 58; refine hi.mono ?_; rintro e w' ⟨rfl, hst⟩)
  (try simp only [Exit.inBlock, Exit.then])
  refine bodyPost_ret (results_none rfl _ _ _) rfl ?_
  exact ⟨rfl, hst.trans HG1.out⟩
noncomputable def eTV : TypeInfo := (Try.prog.info? 43).get (by kernel_rfl)
noncomputable def eEV : TypeInfo := (Try.prog.info? 24).get (by kernel_rfl)
theorem eKV (n : Nat) (h2 : 2 ≤ n) : Lib.swapperK n eEV 25 = 9 := by
  have a : eEV.hasPointers = true := by kernel_rfl
  have b : eEV.bytes = 32 := by kernel_rfl
  have c : (n == 0) = false := by simp; omega
  have d : (n == 1) = false := by simp; omega
  simp [Lib.swapperK, a, b, c, d]
/-- The order asked of the closure that Values makes. -/
theorem lessV_holds {w : World} {B blk n c : Nat} (hB : w.heap[B]? = some (.cells #[.slice (some ⟨blk, 0, none⟩) n c] 43 (0, 0))) (hne : B ≠ blk) (hn : n < 4611686018427387904) : LessV w blk n #[.pointer (some ⟨B, 0, none⟩)] := by
  intro W dk hst hs i j hi hj
  have hbl := (hst.1.block B (Array.getElem?_eq_some_iff.1 hB).1 (fun e => hne (by injection e))).trans hB
  exact less_calls blk 0 c B n W dk (by simp [World.cell?, hbl]) (fun t ht => hst.cells (by omega)) i j hi hj hn
/-- What sort.Slice leaves. -/
def SortsTo (n : Nat) : Prop := ∀ (w : World) (B blk c : Nat) (d : Array Va), w.heap[B]? = some (.cells #[.slice (some ⟨blk, 0, none⟩) n c] 43 (0, 0)) → B ≠ blk → HoldsK encV 3 w blk 0 d → blk < w.heap.size → d.size = n →
  Calls Try.prog 29 #[.iface 43 (.slice (some ⟨blk, 0, none⟩) n c), .func (.func 30) #[] #[.pointer (some ⟨B, 0, none⟩)]] w fun e w' => e = .returned (.tuple #[]) ∧ ∃ d', PermIn 0 n d d' ∧ SortedIn ltV 0 n d' ∧ StV w blk d' w'
set_option maxRecDepth 100000 in
set_option maxHeartbeats 2000000 in
theorem sorts_small (hO : SWO ltV) (n : Nat) (h2 : 2 ≤ n) (h12 : n ≤ 12) : SortsTo n := by
  intro w B blk c d hB hne hH hblk hs
  have hf : Try.prog.funcs.findIdx? (·.name == "internal/reflectlite" ++ ".Swapper$" ++ toString (swapperK n eEV 25)) = some 55 := by rw [eKV _ h2]; kernel_rfl
  refine Any.sort_Slice_of_pdq Try.laysGg6 43 24 eTV eEV (by kernel_rfl) (by kernel_rfl) (by kernel_rfl) (by kernel_rfl) 25 (fun _ => by kernel_rfl) _ n c (by omega) 55 hf (.func 30) #[] #[.pointer (some ⟨B, 0, none⟩)] w _ ?_
  have hBd : sliceBound Try.prog 24 eEV 25 (some ⟨blk, 0, none⟩) n c = #[.slice (some ⟨blk, 0, none⟩) n c, typeHandle Try.prog 24] := by
    unfold sliceBound; rw [if_neg (swapperK_gt _ _ _ h2)]
  have hW : Below w.heap.size w (sliceWorld Try.prog Try.laysGg6_ren 43 (some ⟨blk, 0, none⟩) n c w) := by
    unfold sliceWorld; exact ((Below.refl _ w).alloc (Nat.le_refl _) _).alloc (by simp) _
  rw [hBd]
  have h0 : StV w blk d w := .self hH
  have h1 := h0.below hW hblk
  have hless := (lessV_holds hB hne (by omega)).from h1
  have hsw := swapSwapsK_of_literal (P := Try.prog) false 55 (fun args W => run_callFunc_extern Try.func55 (by kernel_rfl) (by kernel_rfl) (by kernel_rfl) (e := Extern.ReflectliteSwapper.swap false) (by kernel_rfl) args W) 24 eEV (by kernel_rfl) encV 3 (fun _ => rfl) (by kernel_rfl) (fun _ => by kernel_rfl)
    (fun x v hv => by simp [encV] at hv; rcases hv with rfl | rfl | rfl <;> rfl) blk 0 n c
  subst hs
  have hp := pdq_small _ _ _ blk 0 d.size (Lib.bitLen d.size) d _ hless hsw h1.2.1 (h1.lt (by exact hblk)) (by omega) (Nat.le_refl _) (by omega) (by omega)
  refine Calls.mono hp ?_
  rintro e w' ⟨rfl, hst⟩
  have h := insertionSort_holds (lt := ltV) hO d 0 d.size (Nat.zero_le _) (Nat.le_refl _)
  exact ⟨rfl, _, h.1, h.2, hst.trans h1⟩
end Go.Proofs.Ytcpaejdipohndaa.V
namespace Go.Proofs.Ytcpaejdipohndaa.V
open Go.RowKit Go.Sort Go.Shelf Go.Lib Go.Maps Go.Proofs.YtcpaejdipohndaaW.PrintWords Go.Proofs.Ytcpaejdipohndaa.PAll
set_option linter.unusedVariables false
/-- The state of a sort at work: the row's state, and the box db that holds the two functions. -/
structure SS (w : World) (blk n db : Nat) (lb : Array Value) (sf : Nat) (sb : Array Value) (dk : Array Va) (W : World) : Prop where
  st : StV w blk dk W
  sz : dk.size = n
  box : W.heap[db]? = some (.cells #[.func (.func 30) #[] lb, .func (.func sf) #[] sb] 85 (0, 0))
  lt : blk < W.heap.size
  ne : db ≠ blk
variable {w W W' : World} {blk n db : Nat} {lb : Array Value} {sf : Nat} {sb : Array Value} {dk dk' : Array Va}
theorem SS.dlt (h : SS w blk n db lb sf sb dk W) : db < W.heap.size := (Array.getElem?_eq_some_iff.1 h.box).1
theorem SS.c0 (h : SS w blk n db lb sf sb dk W) : W.cell? ⟨db, 0, none⟩ = some (.func (.func 30) #[] lb) := cell_of_blk h.box (j := 0) rfl
theorem SS.c1 (h : SS w blk n db lb sf sb dk W) : W.cell? ⟨db, 1, none⟩ = some (.func (.func sf) #[] sb) := cell_of_blk h.box (j := 1) rfl
theorem SS.below (h : SS w blk n db lb sf sb dk W) (hB : Below W.heap.size W W') : SS w blk n db lb sf sb dk W' :=
  ⟨h.st.below hB h.lt, h.sz, (hB.block db h.dlt).trans h.box, Nat.lt_of_lt_of_le h.lt hB.size, h.ne⟩
theorem SS.step (h : SS w blk n db lb sf sb dk W) (h2 : StV W blk dk' W') (hs : dk'.size = n) : SS w blk n db lb sf sb dk' W' :=
  ⟨h2.trans h.st, hs, (h2.1.block db h.dlt (fun e => h.ne (by injection e))).trans h.box, h2.lt h.lt, h.ne⟩
theorem SS.swap (h : SS w blk n db lb sf sb dk W) {i j : Nat} (hi : i < n) (hj : j < n) : SS w blk n db lb sf sb (swp dk i j) ((W.setCells blk (0 + i * 3) (encV dk[j]!)).setCells blk (0 + j * 3) (encV dk[i]!)) := by
  have := h.sz
  have h0 : StV W blk dk W := .self h.st.2.1
  exact h.step (h0.swap (by omega) (by omega)) (by rw [size_swp]; exact h.sz)
theorem SS.start {d : Array Va} (hH : HoldsK encV 3 w blk 0 d) (hblk : blk < w.heap.size) : SS w blk d.size w.heap.size lb sf sb d (w.alloc (.cells #[.func (.func 30) #[] lb, .func (.func sf) #[] sb] 85)) := by
  have hb1 : Below w.heap.size w (w.alloc (.cells #[.func (.func 30) #[] lb, .func (.func sf) #[] sb] 85)) := (Below.refl _ w).alloc (Nat.le_refl _) _
  have h0 : StV w blk d w := .self hH
  exact ⟨h0.below hb1 hblk, rfl, World.alloc_heap_new _ _, Nat.lt_of_lt_of_le hblk hb1.size, by omega⟩
theorem SS.less (h : SS w blk n db lb sf sb dk W) (hL : LessV w blk n lb) {x y : Int} (i j : Nat) (hx : x = i) (hy : y = j) (hi : i < n) (hj : j < n) :
    Calls Try.prog 30 (#[.int .i64 x, .int .i64 y] ++ lb) W fun e w' => e = .returned (.bool (ltV dk[i]! dk[j]!)) ∧ Below W.heap.size W w' := by
  subst hx; subst hy; exact hL W dk h.st h.sz i j hi hj
theorem SS.swaps (h : SS w blk n db lb sf sb dk W) (hS : swapV sf sb blk n) {x y : Int} (i j : Nat) (hx : x = i) (hy : y = j) (hi : i < n) (hj : j < n) :
    (callFunc sf (#[.int .i64 x, .int .i64 y] ++ sb)).run Try.prog W = .ok (.value (.tuple #[])) ((W.setCells blk (0 + i * 3) (encV dk[j]!)).setCells blk (0 + j * 3) (encV dk[i]!)) := by
  subst hx; subst hy; exact hS W dk h.st.2.1 h.sz i j hi hj
theorem SS.swaps' (h : SS w blk n db lb sf sb dk W) (hS : swapV sf sb blk n) {x y : Int} (i j : Nat) (hx : x = i) (hy : y = j) (hi : i < n) (hj : j < n) :
    ∃ w5, (callFunc sf (#[.int .i64 x, .int .i64 y] ++ sb)).run Try.prog W = .ok (.value (.tuple #[])) w5 ∧ Hid (SS w blk n db lb sf sb (swp dk i j) w5) :=
  ⟨_, h.swaps hS i j hx hy hi hj, h.swap hi hj⟩
theorem SS.lessV (h : SS w blk n db lb sf sb dk W) (hL : LessV w blk n lb) : LessV W blk n lb := hL.from h.st
theorem entersV : ∀ args w, (callFunc 30 args).run Try.prog w = .ok (.enter 30 args) w := enters_of Try.func30 (by kernel_rfl) rfl
set_option maxRecDepth 100000 in
set_option maxHeartbeats 1000000 in
theorem sd_calls (lb : Array Value) (sf : Nat) (sb : Array Value) (blk lo hi first : Nat) (d : Array Va) (w : World) (hless : LessV w blk d.size lb) (hswap : swapV sf sb blk d.size)
    (hH : HoldsK encV 3 w blk 0 d) (hblk : blk < w.heap.size) (hlo : lo ≤ hi) (hb : first + hi ≤ d.size) (hsz : d.size < 4611686018427387904) :
    Calls Try.prog 71 #[.agg #[.func (.func 30) #[] lb, .func (.func sf) #[] sb], .int .i64 lo, .int .i64 hi, .int .i64 first] w fun e w' =>
      e = .returned (.tuple #[]) ∧ StV w blk (siftDown ltV hi first lo d) w' := by
  have eg := entersV
  have h0 : SS w blk d.size w.heap.size lb sf sb d _ := SS.start (sf := sf) (sb := sb) (lb := lb) hH hblk
  clear hH hblk
  go_enter Try.func71, Try.ntmps71
  go_wp2_with fail
  generalize (w.alloc (.cells #[.func (.func 30) #[] lb, .func (.func sf) #[] sb] 85)) = w1 at *
  generalize w.heap.size = db at *
  generalize hn : d.size = n at *
  have HLess := Lib.hid hless
  have HSwap := Lib.hid hswap
  clear hless hswap
  go_loopw [8] (fun s8 wr => ∃ (root : Nat) (dk : Array Va), s8 = .int .i64 root ∧ root ≤ hi ∧ SS w blk n db lb sf sb dk wr ∧ siftDown ltV hi first root dk = siftDown ltV hi first lo d) (fun s8 _ => hi - (intOf s8).toNat)
  case atStart => exact ⟨lo, d, rfl, hlo, h0, rfl⟩
  case round =>
    clear h0
    obtain ⟨root, dk, rfl, hr, hS, hE⟩ := hrel
    have HE := Lib.hid hE
    have HS := Lib.hid hS
    have c0 := hS.c0
    clear hE hS
    by_cases h0 : hi ≤ 2 * root + 1
    · have h0z : (hi : Int) ≤ 2 * (root : Int) + 1 := by omega
      go_wp2_with fail
      go_end0
      exact ⟨rfl, by rw [← HE.out, sd_end ltV dk h0]; exact HS.out.st⟩
    · have h0z : ¬ ((hi : Int) ≤ 2 * (root : Int) + 1) := by omega
      by_cases h1 : 2 * root + 2 < hi
      · have h1z : 2 * (root : Int) + 1 + 1 < (hi : Int) := by omega
        have hl1 := HS.out.less HLess.out (x := (first : Int) + (2 * (root : Int) + 1)) (y := (first : Int) + (2 * (root : Int) + 1) + 1) (first + (2 * root + 1)) (first + (2 * root + 2)) (by omega) (by omega) (by omega) (by omega)
        cases hL : ltV dk[first + (2 * root + 1)]! dk[first + (2 * root + 2)]! with
        | true =>
          rw [hL] at hl1
          cases hG : ltV dk[first + root]! dk[first + (2 * root + 2)]! with
          | true =>
            go_wp2_with (first | (go_at_fn 30; refine hl1.mono ?_; rintro e w' ⟨rfl, hB1⟩; have hS1 := HS.out.below hB1; have c01 := hS1.c0; have hl2 := hS1.less HLess.out (x := (first : Int) + (root : Int)) (y := (first : Int) + (2 * (root : Int) + 1 + 1)) (first + root) (first + (2 * root + 2)) (by omega) (by omega) (by omega) (by omega); rw [hG] at hl2; have HS1 := Lib.hid hS1; clear hS1) | (go_at_fn 30; refine hl2.mono ?_; rintro e w' ⟨rfl, hB2⟩; have hS2 := HS1.out.below hB2; have c12 := hS2.c1; obtain ⟨w5, hs, HS2⟩ := hS2.swaps' HSwap.out (x := (first : Int) + (root : Int)) (y := (first : Int) + (2 * (root : Int) + 1 + 1)) (first + root) (first + (2 * root + 2)) (by omega) (by omega) (by omega) (by omega); clear hS2))
            go_roundw
            case rel => exact ⟨2 * root + 2, _, by go_num, by omega, HS2.out, by rw [← HE.out, sd_right_go ltV dk h1 hL hG]⟩
            case measure => simp [intOf]; omega
          | false =>
            go_wp2_with (first | (go_at_fn 30; refine hl1.mono ?_; rintro e w' ⟨rfl, hB1⟩; have hS1 := HS.out.below hB1; have c01 := hS1.c0; have hl2 := hS1.less HLess.out (x := (first : Int) + (root : Int)) (y := (first : Int) + (2 * (root : Int) + 1 + 1)) (first + root) (first + (2 * root + 2)) (by omega) (by omega) (by omega) (by omega); rw [hG] at hl2; have HS1 := Lib.hid hS1; clear hS1) | (go_at_fn 30; refine hl2.mono ?_; rintro e w' ⟨rfl, hB2⟩; have HS2 := Lib.hid (HS1.out.below hB2)))
            (try simp only [Exit.inBlock, Exit.then]); refine bodyPost_ret (results_none rfl _ _ _) rfl ?_
            exact ⟨rfl, by rw [← HE.out, sd_right_stop ltV dk h1 hL hG]; exact HS2.out.st⟩
        | false =>
          rw [hL] at hl1
          cases hG : ltV dk[first + root]! dk[first + (2 * root + 1)]! with
          | true =>
            go_wp2_with (first | (go_at_fn 30; refine hl1.mono ?_; rintro e w' ⟨rfl, hB1⟩; have hS1 := HS.out.below hB1; have c01 := hS1.c0; have hl2 := hS1.less HLess.out (x := (first : Int) + (root : Int)) (y := (first : Int) + (2 * (root : Int) + 1)) (first + root) (first + (2 * root + 1)) (by omega) (by omega) (by omega) (by omega); rw [hG] at hl2; have HS1 := Lib.hid hS1; clear hS1) | (go_at_fn 30; refine hl2.mono ?_; rintro e w' ⟨rfl, hB2⟩; have hS2 := HS1.out.below hB2; have c12 := hS2.c1; obtain ⟨w5, hs, HS2⟩ := hS2.swaps' HSwap.out (x := (first : Int) + (root : Int)) (y := (first : Int) + (2 * (root : Int) + 1)) (first + root) (first + (2 * root + 1)) (by omega) (by omega) (by omega) (by omega); clear hS2))
            go_roundw
            case rel => exact ⟨2 * root + 1, _, by go_num, by omega, HS2.out, by rw [← HE.out, sd_left_go ltV dk (by omega) (fun _ => hL) hG]⟩
            case measure => simp [intOf]; omega
          | false =>
            go_wp2_with (first | (go_at_fn 30; refine hl1.mono ?_; rintro e w' ⟨rfl, hB1⟩; have hS1 := HS.out.below hB1; have c01 := hS1.c0; have hl2 := hS1.less HLess.out (x := (first : Int) + (root : Int)) (y := (first : Int) + (2 * (root : Int) + 1)) (first + root) (first + (2 * root + 1)) (by omega) (by omega) (by omega) (by omega); rw [hG] at hl2; have HS1 := Lib.hid hS1; clear hS1) | (go_at_fn 30; refine hl2.mono ?_; rintro e w' ⟨rfl, hB2⟩; have HS2 := Lib.hid (HS1.out.below hB2)))
            (try simp only [Exit.inBlock, Exit.then]); refine bodyPost_ret (results_none rfl _ _ _) rfl ?_
            exact ⟨rfl, by rw [← HE.out, sd_left_stop ltV dk (by omega) (fun _ => hL) hG]; exact HS2.out.st⟩
      · have h1z : ¬ (2 * (root : Int) + 1 + 1 < (hi : Int)) := by omega
        have hl2 := HS.out.less HLess.out (x := (first : Int) + (root : Int)) (y := (first : Int) + (2 * (root : Int) + 1)) (first + root) (first + (2 * root + 1)) (by omega) (by omega) (by omega) (by omega)
        cases hG : ltV dk[first + root]! dk[first + (2 * root + 1)]! with
        | true =>
          rw [hG] at hl2
          go_wp2_with (go_at_fn 30; refine hl2.mono ?_; rintro e w' ⟨rfl, hB2⟩; have hS2 := HS.out.below hB2; have c12 := hS2.c1; obtain ⟨w5, hs, HS2⟩ := hS2.swaps' HSwap.out (x := (first : Int) + (root : Int)) (y := (first : Int) + (2 * (root : Int) + 1)) (first + root) (first + (2 * root + 1)) (by omega) (by omega) (by omega) (by omega); clear hS2)
          go_roundw
          case rel => exact ⟨2 * root + 1, _, by go_num, by omega, HS2.out, by rw [← HE.out, sd_left_go ltV dk (by omega) (fun h => absurd h h1) hG]⟩
          case measure => simp [intOf]; omega
        | false =>
          rw [hG] at hl2
          go_wp2_with (go_at_fn 30; refine hl2.mono ?_; rintro e w' ⟨rfl, hB2⟩; have HS2 := Lib.hid (HS.out.below hB2))
          (try simp only [Exit.inBlock, Exit.then]); refine bodyPost_ret (results_none rfl _ _ _) rfl ?_
          exact ⟨rfl, by rw [← HE.out, sd_left_stop ltV dk (by omega) (fun h => absurd h h1) hG]; exact HS2.out.st⟩
set_option maxRecDepth 100000 in
set_option maxHeartbeats 1000000 in
theorem hs_calls (lb : Array Value) (sf : Nat) (sb : Array Value) (blk a b : Nat) (d : Array Va) (w : World) (hless : LessV w blk d.size lb) (hswap : swapV sf sb blk d.size)
    (hH : HoldsK encV 3 w blk 0 d) (hblk : blk < w.heap.size) (hab : a ≤ b) (hb : b ≤ d.size) (hsz : d.size < 4611686018427387904) :
    Calls Try.prog 59 #[.agg #[.func (.func 30) #[] lb, .func (.func sf) #[] sb], .int .i64 a, .int .i64 b] w fun e w' =>
      e = .returned (.tuple #[]) ∧ StV w blk (heapSort ltV d a b) w' := by
  have h0 : SS w blk d.size w.heap.size lb sf sb d _ := SS.start (sf := sf) (sb := sb) (lb := lb) hH hblk
  have hhalf := half_start hab
  clear hH hblk
  go_enter Try.func59, Try.ntmps59
  go_wp2_with fail
  generalize (w.alloc (.cells #[.func (.func 30) #[] lb, .func (.func sf) #[] sb] 85)) = w1 at *
  generalize w.heap.size = db at *
  generalize hn : d.size = n at *
  have HLess := Lib.hid hless
  have HSwap := Lib.hid hswap
  clear hless hswap
  have hE1 : ((b - a - 1) / 2 + 1 : Nat) = ((((b - a - 1) / 2 : Nat) : Int) + 1).toNat := by omega
  go_loopw [9] (fun s wr => ∃ (z : Int) (dk : Array Va), s = .int .i64 z ∧ -1 ≤ z ∧ z ≤ (((b - a - 1) / 2 : Nat) : Int) ∧ SS w blk n db lb sf sb dk wr ∧ heapBuild ltV (b - a) a (z + 1).toNat dk = heapBuild ltV (b - a) a ((b - a - 1) / 2 + 1) d) (fun s _ => (intOf s + 1).toNat)
  case atStart => exact ⟨(((b - a - 1) / 2 : Nat) : Int), d, by first | rfl | (congr 1; omega), by omega, Int.le_refl _, h0, by rw [← hE1]⟩
  case round =>
    clear h0 hE1 hhalf
    obtain ⟨z, dk, rfl, hz1, hz2, hS, hE⟩ := hrel
    have HE := Lib.hid hE
    have HS := Lib.hid hS
    have c0 := hS.c0
    have c1 := hS.c1
    clear hE hS
    by_cases hz : 0 ≤ z
    · have hkz : decide (z ≥ 0) = true := decide_eq_true hz
      have hkz2 : decide (0 ≤ z) = true := decide_eq_true hz
      have hba : ((b - a : Nat) : Int) = (b : Int) - (a : Int) := by omega
      have hsz2 := HS.out.sz
      have hc := sd_calls lb sf sb blk z.toNat (b - a) a dk wr (by rw [hsz2]; exact HS.out.lessV HLess.out) (by rw [hsz2]; exact HSwap.out) HS.out.st.2.1 HS.out.lt (by omega) (by omega) (by omega)
      rw [hba, Int.toNat_of_nonneg hz] at hc
      clear hba
      have hz3 : z < 4611686018427387904 := by omega
      go_wp2_with (go_at_call 71; refine hc.mono ?_; rintro e w' ⟨rfl, hst⟩)
      go_roundw
      case rel =>
        have e1 : (z + 1).toNat = z.toNat + 1 := by omega
        have e2 : (z - 1 + 1).toNat = z.toNat := by omega
        exact ⟨z - 1, _, rfl, by omega, by omega, HS.out.step hst (by rw [size_siftDown ltV _ _ _ _ _ (Nat.le_refl _)]; exact hsz2), by rw [← HE.out, e1, e2]; rfl⟩
      case measure => simp only [intOf]; omega
    · have hkz : decide (z ≥ 0) = false := decide_eq_false hz
      have hkz2 : decide (0 ≤ z) = false := decide_eq_false hz
      go_wp2_with fail
      have hE0 : dk = heapBuild ltV (b - a) a ((b - a - 1) / 2 + 1) d := by rw [← HE.out, show (z + 1).toNat = 0 by omega]; rfl
      have HE0 := Lib.hid hE0
      clear hE0
      go_loopw [10] (fun s wr => ∃ (z : Int) (dk : Array Va), s = .int .i64 z ∧ -1 ≤ z ∧ z < (b : Int) - (a : Int) ∧ SS w blk n db lb sf sb dk wr ∧ heapPop ltV a (z + 1).toNat dk = heapSort ltV d a b) (fun s _ => (intOf s + 1).toNat)
      case atStart => exact ⟨(b : Int) - (a : Int) - 1, dk, rfl, by omega, by omega, HS.out, by rw [HE0.out, show ((b : Int) - (a : Int) - 1 + 1).toNat = b - a by omega]; rfl⟩
      case round =>
        clear HS HE HE0 c0 c1 hz1 hz2 hz hkz hkz2
        obtain ⟨z, dj, rfl, hz1, hz2, hS, hE⟩ := hrel
        have HE := Lib.hid hE
        have HS := Lib.hid hS
        have c0 := hS.c0
        have c1 := hS.c1
        clear hE
        by_cases hz : 0 ≤ z
        · have hkz : decide (z ≥ 0) = true := decide_eq_true hz
          have hkz2 : decide (0 ≤ z) = true := decide_eq_true hz
          obtain ⟨w5, hs, HW⟩ := hS.swaps' HSwap.out (x := (a : Int)) (y := (a : Int) + z) a (a + z.toNat) rfl (by omega) (by omega) (by omega)
          clear hS
          have hsz3 := HW.out.sz
          have hc := sd_calls lb sf sb blk 0 z.toNat a (swp dj a (a + z.toNat)) w5 (by rw [hsz3]; exact HW.out.lessV HLess.out) (by rw [hsz3]; exact HSwap.out) HW.out.st.2.1 HW.out.lt (by omega) (by omega) (by omega)
          rw [Int.toNat_of_nonneg hz] at hc
          have c05 := HW.out.c0
          have c15 := HW.out.c1
          have hz3 : z < 4611686018427387904 := by omega
          go_wp2_with (go_at_call 71; refine hc.mono ?_; rintro e w' ⟨rfl, hst⟩)
          go_roundw
          case rel =>
            have e1 : (z + 1).toNat = z.toNat + 1 := by omega
            have e2 : (z - 1 + 1).toNat = z.toNat := by omega
            exact ⟨z - 1, _, rfl, by omega, by omega, HW.out.step hst (by rw [size_siftDown ltV _ _ _ _ _ (Nat.le_refl _)]; exact hsz3), by rw [← HE.out, e1, e2]; rfl⟩
          case measure => simp only [intOf]; omega
        · have hkz : decide (z ≥ 0) = false := decide_eq_false hz
          have hkz2 : decide (0 ≤ z) = false := decide_eq_false hz
          go_wp2_with fail
          go_end0
          exact ⟨rfl, by rw [← HE.out, show (z + 1).toNat = 0 by omega]; exact hS.st⟩
end Go.Proofs.Ytcpaejdipohndaa.V
namespace Go.Proofs.Ytcpaejdipohndaa.V
open Go.RowKit Go.Sort Go.Shelf Go.Lib Go.Maps Go.Proofs.YtcpaejdipohndaaW.PrintWords Go.Proofs.Ytcpaejdipohndaa.PAll
set_option linter.unusedVariables false
set_option maxRecDepth 100000 in
set_option maxHeartbeats 8000000 in
theorem pe_calls (lb : Array Value) (sf : Nat) (sb : Array Value) (blk a b pivot : Nat) (d : Array Va) (w : World) (hless : LessV w blk d.size lb) (hswap : swapV sf sb blk d.size)
    (hH : HoldsK encV 3 w blk 0 d) (hblk : blk < w.heap.size) (hap : a ≤ pivot) (hpb : pivot < b) (hb : b ≤ d.size) (hsz : d.size < 4611686018427387904) :
    Calls Try.prog 64 #[.agg #[.func (.func 30) #[] lb, .func (.func sf) #[] sb], .int .i64 a, .int .i64 b, .int .i64 pivot] w fun e w' =>
      e = .returned (.int .i64 (Sort.partitionEqual ltV d a b pivot).1) ∧ StV w blk (Sort.partitionEqual ltV d a b pivot).2 w' := by
  have eg := entersV
  have h0 : SS w blk d.size w.heap.size lb sf sb d _ := SS.start (sf := sf) (sb := sb) (lb := lb) hH hblk
  clear hH hblk
  obtain ⟨w2, hs0, hsw0⟩ := h0.swaps' hswap (x := (a : Int)) (y := (pivot : Int)) a pivot rfl rfl (by omega) (by omega)
  have hsw := hsw0.out
  clear hsw0
  have c1 := h0.c1
  clear h0
  go_enter Try.func64, Try.ntmps64
  generalize hw1 : (w.alloc (.cells #[.func (.func 30) #[] lb, .func (.func sf) #[] sb] 85)) = w1 at *
  go_wp2_with fail
  clear hs0 c1 hw1
  generalize w.heap.size = db at *
  generalize hn : d.size = n at *
  have HLess := Lib.hid hless
  have HSwap := Lib.hid hswap
  clear hless hswap
  go_loopw [9, 10] (fun vi vj wr => ∃ (i j : Nat) (dk : Array Va), vi = .int .i64 i ∧ vj = .int .i64 j ∧ a < i ∧ i ≤ j + 1 ∧ j < b ∧ SS w blk n db lb sf sb dk wr ∧
      Sort.partEqLoop ltV a i j dk = Sort.partEqLoop ltV a (a + 1) (b - 1) (Sort.swp d a pivot)) (fun vi vj _ => (intOf vj).toNat + 1 - (intOf vi).toNat)
  case atStart => exact ⟨a + 1, b - 1, _, by go_num, by go_num, by omega, by omega, by omega, hsw, rfl⟩
  case round =>
    clear hsw
    obtain ⟨i, j, dk, rfl, rfl, hai, hij, hjb, hS, hE⟩ := hrel
    have HE := Lib.hid hE
    have HS := Lib.hid hS
    clear hE hS
    go_upto_block 2 with (fail)
    go_cut [9] (fun s wc => ∃ (i2 : Nat), s = .int .i64 i2 ∧ i ≤ i2 ∧ i2 ≤ j + 1 ∧ SS w blk n db lb sf sb dk wc ∧ i2 = Sort.scanUp (fun x => !ltV dk[a]! x) dk j i)
    case first =>
      go_wp2_with fail
      go_loopw [9] (fun s wr => ∃ (i' : Nat), s = .int .i64 i' ∧ i ≤ i' ∧ i' ≤ j + 1 ∧ SS w blk n db lb sf sb dk wr ∧ Sort.scanUp (fun x => !ltV dk[a]! x) dk j i' = Sort.scanUp (fun x => !ltV dk[a]! x) dk j i) (fun s _ => j + 1 - (intOf s).toNat)
      case atStart => exact ⟨i, rfl, Nat.le_refl _, hij, HS.out, rfl⟩
      case round =>
        clear HS HE
        obtain ⟨i', rfl, hii, hij', hS, hsc⟩ := hrel
        have HSc := Lib.hid hsc
        have HS := Lib.hid hS
        have c0 := hS.c0
        clear hsc
        by_cases hle : i' ≤ j
        · have hlez : decide ((i' : Int) ≤ (j : Int)) = true := decide_eq_true (by omega)
          have hl := hS.less HLess.out (x := (a : Int)) (y := (i' : Int)) a i' rfl rfl (by omega) (by omega)
          clear hS
          cases hlv : ltV dk[a]! dk[i']! with
          | false =>
            rw [hlv] at hl
            go_wp2_with (go_at_fn 30; refine hl.mono ?_; rintro e w' ⟨rfl, hB⟩; have HS2 := Lib.hid (HS.out.below hB))
            go_roundw
            case rel => exact ⟨i' + 1, by go_num, by omega, by omega, HS2.out, (scanUp_go (fun x => !ltV dk[a]! x) dk j i' hle (by simp [hlv])).symm.trans HSc.out⟩
            case measure => simp [intOf]; omega
          | true =>
            rw [hlv] at hl
            go_wp2_with (go_at_fn 30; refine hl.mono ?_; rintro e w' ⟨rfl, hB⟩; have HS2 := Lib.hid (HS.out.below hB))
            go_meet
            case rel => exact ⟨i', rfl, hii, hij', HS2.out, (scanUp_end (fun x => !ltV dk[a]! x) dk j i' (Or.inr (by simp [hlv]))).symm.trans HSc.out⟩
        · have hlez : decide ((i' : Int) ≤ (j : Int)) = false := decide_eq_false (by omega)
          clear hS
          go_wp2_with fail
          go_meet
          case rel => exact ⟨i', rfl, hii, hij', HS.out, (scanUp_end (fun x => !ltV dk[a]! x) dk j i' (Or.inl hle)).symm.trans HSc.out⟩
    case rest =>
      clear HS
      obtain ⟨i2, rfl, hii, hij2, hS, hi2⟩ := hcut
      have Hi2 := Lib.hid hi2
      have HS := Lib.hid hS
      clear hi2 hS
      go_upto_block 4 with (fail)
      go_cut [10] (fun s wc => ∃ (j2 : Nat), s = .int .i64 j2 ∧ j2 ≤ j ∧ i2 ≤ j2 + 1 ∧ SS w blk n db lb sf sb dk wc ∧ j2 = Sort.scanDown (fun x => ltV dk[a]! x) dk i2 j)
      case first =>
        go_wp2_with fail
        go_loopw [10] (fun s wr => ∃ (j' : Nat), s = .int .i64 j' ∧ j' ≤ j ∧ i2 ≤ j' + 1 ∧ SS w blk n db lb sf sb dk wr ∧ Sort.scanDown (fun x => ltV dk[a]! x) dk i2 j' = Sort.scanDown (fun x => ltV dk[a]! x) dk i2 j) (fun s _ => (intOf s).toNat)
        case atStart => exact ⟨j, rfl, Nat.le_refl _, hij2, HS.out, rfl⟩
        case round =>
          clear HS HE Hi2
          obtain ⟨j', rfl, hjj, hij', hS, hsc⟩ := hrel
          have HSc := Lib.hid hsc
          have HS := Lib.hid hS
          have c0 := hS.c0
          clear hsc
          by_cases hle : i2 ≤ j'
          · have hlez : decide ((i2 : Int) ≤ (j' : Int)) = true := decide_eq_true (by omega)
            have hl := hS.less HLess.out (x := (a : Int)) (y := (j' : Int)) a j' rfl rfl (by omega) (by omega)
            clear hS
            cases hlv : ltV dk[a]! dk[j']! with
            | true =>
              rw [hlv] at hl
              go_wp2_with (go_at_fn 30; refine hl.mono ?_; rintro e w' ⟨rfl, hB⟩; have HS2 := Lib.hid (HS.out.below hB))
              go_roundw
              case rel => exact ⟨j' - 1, by go_num, by omega, by omega, HS2.out, (scanDown_go (fun x => ltV dk[a]! x) dk i2 j' hle (by omega) hlv).symm.trans HSc.out⟩
              case measure => simp [intOf]; omega
            | false =>
              rw [hlv] at hl
              go_wp2_with (go_at_fn 30; refine hl.mono ?_; rintro e w' ⟨rfl, hB⟩; have HS2 := Lib.hid (HS.out.below hB))
              go_meet
              case rel => exact ⟨j', rfl, hjj, hij', HS2.out, (scanDown_end (fun x => ltV dk[a]! x) dk i2 j' (Or.inr hlv)).symm.trans HSc.out⟩
          · have hlez : decide ((i2 : Int) ≤ (j' : Int)) = false := decide_eq_false (by omega)
            clear hS
            go_wp2_with fail
            go_meet
            case rel => exact ⟨j', rfl, hjj, hij', HS.out, (scanDown_end (fun x => ltV dk[a]! x) dk i2 j' (Or.inl hle)).symm.trans HSc.out⟩
      case rest =>
        clear HS
        obtain ⟨j2, rfl, hjj, hij3, hS, hj2⟩ := hcut
        have Hj2 := Lib.hid hj2
        have HS := Lib.hid hS
        clear hj2
        by_cases hgt : i2 > j2
        · have hgtz : decide ((i2 : Int) > (j2 : Int)) = true := decide_eq_true (by omega)
          have hgtz2 : decide ((j2 : Int) < (i2 : Int)) = true := decide_eq_true (by omega)
          clear hS
          go_wp2_with fail
          go_ret
          have e := partEq_break ltV a i j dk Hi2.out Hj2.out (by omega)
          unfold Sort.partitionEqual
          rw [← HE.out, e]
          exact ⟨rfl, HS.out.st⟩
        · have hgtz : decide ((i2 : Int) > (j2 : Int)) = false := decide_eq_false (by omega)
          have hgtz2 : decide ((j2 : Int) < (i2 : Int)) = false := decide_eq_false (by omega)
          have hlt3 := scans_lt ltV a i j dk (by omega) Hi2.out Hj2.out (by omega)
          obtain ⟨w5, hs, hsw⟩ := hS.swaps' HSwap.out (x := (i2 : Int)) (y := (j2 : Int)) i2 j2 rfl rfl (by omega) (by omega)
          have c1 := hS.c1
          clear hS
          go_wp2_with fail
          go_roundw
          case rel => exact ⟨i2 + 1, j2 - 1, _, by go_num, by go_num, by omega, by omega, by omega, hsw.out, by rw [← HE.out]; exact (partEq_go ltV a i j dk Hi2.out Hj2.out hgt).symm⟩
          case measure => simp [intOf]; omega
end Go.Proofs.Ytcpaejdipohndaa.V

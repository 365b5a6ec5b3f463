/- Ranges: Count and Between at any range, and chapter 13's example. -/
import Derived.Test.YtdbdkcmbenokbaaGPure
namespace Go.Proofs.Ytdbdkcmbenokbaa.G
open Go.RowKit Go.Lib Go.Shelf Go.Proofs.YtdbdkcmbenokbaaW.PrintWords Go.Proofs.YtdbdkcmbenokbaaW.PrintMore Go.Proofs.Ytdbdkcmbenokbaa.PAll
open Go.Sort hiding rd
set_option linter.unusedVariables false

/-- The entries of a range, and their ids. -/
def rangeE (l : List En) (low high : Int) : List En := l.filter (inR low high)
def rangeI (l : List En) (low high : Int) : List Int := unionL ((rangeE l low high).map (·.2))
theorem rangeE_le (l : List En) (low high : Int) : (rangeE l low high).length ≤ l.length := List.length_filter_le _ _
theorem rangeI_le (l : List En) (low high : Int) : (rangeI l low high).length ≤ l.length := by
  have h1 := unionL_le ((rangeE l low high).map (·.2))
  have h2 := rangeE_le l low high
  rw [List.length_map] at h1
  exact Nat.le_trans h1 h2
theorem rangeE_none (l : List En) (low high : Int) (h : high < low) : rangeE l low high = [] := by
  unfold rangeE
  rw [List.filter_eq_nil_iff]
  intro e _
  simp [inR]; omega
theorem part_any (x base : Nat) (l : List En) (low high : Int) (w : World) (hI : Idx w base x l) (hs : l.Pairwise (fun x y => x.1 ≤ y.1)) (hlen : l.length ≤ 1073741824) :
    Calls Try.prog 24 #[.pointer (some ⟨x, 0, none⟩), .int .i64 low, .int .i64 high] w (POut w (rangeE l low high)) := by
  by_cases h : low ≤ high
  · exact part_calls x base l low high w hI hs hlen h
  · rw [rangeE_none l low high (by omega)]
    exact part_none x low high w (by omega)
theorem count_calls (x base : Nat) (l : List En) (low high : Int) (w : World) (hI : Idx w base x l) (hs : l.Pairwise (fun x y => x.1 ≤ y.1)) (hlen : l.length ≤ 1073741824) :
    Calls Try.prog 9 #[.pointer (some ⟨x, 0, none⟩), .int .i64 low, .int .i64 high] w (VOut w (.int .i64 (rangeE l low high).length)) :=
  count_of _ low high _ w (part_any x base l low high w hI hs hlen)
theorem between_calls (x base : Nat) (l : List En) (low high : Int) (w : World) (hI : Idx w base x l) (hs : l.Pairwise (fun x y => x.1 ≤ y.1)) (hlen : l.length ≤ 1073741824) :
    Calls Try.prog 11 #[.pointer (some ⟨x, 0, none⟩), .int .i64 low, .int .i64 high] w (BtOut w (rangeI l low high)) :=
  between_of _ low high _ w (Nat.le_trans (rangeE_le _ _ _) hlen) (part_any x base l low high w hI hs hlen)
/-- What a list of ints that a call made reads as. -/
theorem R_C {W : World} {base : Nat} {v : Value} {l : List Int} (h : Kd.R (Kd.int .i64) 3 W base (fun _ => True) v l) : ∃ A c, v = .slice A l.length c ∧ l.length ≤ c ∧ Kd.C (Kd.int .i64) W A l.length l := Kd.R_reads h
/-- The reference's Ints at two lists that are one, and at two that are not. -/
theorem ints_calls (A0 : Option Addr) (c0 : Nat) (l0 : List Int) (A1 : Option Addr) (c1 : Nat) (l1 : List Int) (w : World) (h0 : Kd.C (Kd.int .i64) w A0 l0.length l0) (hc0 : l0.length ≤ c0) (h1 : Kd.C (Kd.int .i64) w A1 l1.length l1) (hc1 : l1.length ≤ c1) (hl : l0.length ≤ 17592186044416) :
    Calls Try.prog 14 #[.slice A0 l0.length c0, .slice A1 l1.length c1] w fun e w' => e = .returned (.bool (decide (l0 = l1))) ∧ Below w.heap.size w w' := by
  obtain ⟨k, hk⟩ := ints_ev l0 l1 hl
  exact (lodestarref13_Ints.calls k A0 c0 l0 A1 c1 l1 _ w h0 hc0 h1 hc1 hk).mono fun e w' ⟨he, hd⟩ => ⟨he, hd.below⟩
def exL : List En := [(5, 1), (3, 2), (5, 1), (7, 2)]
theorem norm_ex : norm exL = [(3, 2), (5, 1), (7, 2)] := norm_eq (by simp [ltE]) (fun x => by simp [exL]; exact fun h => .inr (.inl h))
theorem range_ex : rangeI [(3, 2), (5, 1), (7, 2)] 3 5 = [1, 2] := by
  apply H.rising_ext (union_rising _) (by simp)
  intro x
  have e : (rangeE [(3, 2), (5, 1), (7, 2)] 3 5).map (·.2) = [2, 1] := by decide
  rw [e, mem_unionL]
  simp; omega
def BelowOut (w : World) (v : Value) (e : Ending) (w' : World) : Prop := e = .returned v ∧ Below w.heap.size w w'
theorem C_lit2 (W : World) (a b : Int) : Kd.C (Kd.int .i64) (W.alloc (.cells #[.int .i64 a, .int .i64 b] 3)) (some ⟨W.heap.size, 0, none⟩) 2 [a, b] := H.C_new W [a, b] (by simp)
set_option maxRecDepth 100000 in
set_option maxHeartbeats 4000000 in
theorem awake_calls (w : World) : Calls Try.prog 8 #[] w (BelowOut w (.bool true)) := by
  have hrd : RdE (w.alloc (.cells #[.int .i64 5, .int .i64 1, .int .i64 3, .int .i64 2, .int .i64 5, .int .i64 1, .int .i64 7, .int .i64 2] 32)) (some ⟨w.heap.size, 0, none⟩) exL := fun _ => by
    refine ⟨_, rfl, fun j u hu => ?_⟩
    rw [Addr.add_lit, Nat.zero_add]
    have e : flatE exL = [.int .i64 5, .int .i64 1, .int .i64 3, .int .i64 2, .int .i64 5, .int .i64 1, .int .i64 7, .int .i64 2] := rfl
    rw [e] at hu
    refine cell_of_blk (World.alloc_heap_new w _) ?_
    rw [List.getElem?_toArray]
    exact hu
  have CB := build_calls (some ⟨w.heap.size, 0, none⟩) 4 exL _ hrd (by decide)
  rw [norm_ex] at CB
  change Calls Try.prog 7 #[.slice (some ⟨w.heap.size, 0, none⟩) 4 4] _ _ at CB
  clear hrd
  have hs3 : ([(3, 2), (5, 1), (7, 2)] : List En).Pairwise (fun x y => x.1 ≤ y.1) := by simp
  have HS3 := Lib.hid hs3
  clear hs3
  go_enter Try.func8, Try.ntmps8
  go_wp2_with fail
  refine CB.mono ?_
  rintro e w1 ⟨x, rfl, hI, hB⟩
  have hB1 : Below w.heap.size w w1 := ((Below.refl _ w).alloc (Nat.le_refl _) _).trans (hB.mono (by simp))
  clear hB CB
  have hI1 := Lib.hid hI
  have HB1 := Lib.hid hB1
  clear hI hB1
  go_wp2_with fail
  refine (least_some x _ _ w1 hI1.out (by decide)).mono ?_
  rintro e w1' ⟨rfl, hw⟩
  obtain rfl : w1 = w1' := hw.symm
  go_wp2_with fail
  refine (len_calls x _ _ w1 hI1.out).mono ?_
  rintro e w1' ⟨rfl, hw⟩
  obtain rfl : w1 = w1' := hw.symm
  go_wp2_with fail
  refine (between_calls x _ _ 3 5 w1 hI1.out HS3.out (by decide)).mono ?_
  rintro e w2 ⟨v2, rfl, hR2, hB2⟩
  rw [range_ex] at hR2
  obtain ⟨A2, c2, rfl, hc2, hC2⟩ := R_C hR2
  have HB2 := Lib.hid (HB1.out.trans (hB2.mono HB1.out.size))
  have hI2 := Lib.hid (hI1.out.below hB2)
  have HC2 := Lib.hid hC2
  have HCC := Lib.hid hc2
  clear hR2 hC2 hB2 hI1 HB1 hc2
  go_wp2_with fail
  have CI := ints_calls A2 c2 [1, 2] (some ⟨w2.heap.size, 0, none⟩) 2 [1, 2] (w2.alloc (.cells #[.int .i64 1, .int .i64 2] 3)) (Kd.C_alloc HC2.out _) HCC.out (C_lit2 w2 1 2) (by decide) (by decide)
  refine CI.mono ?_
  clear CI
  rintro e w3 ⟨rfl, hB3⟩
  have hB3' : Below w2.heap.size w2 w3 := ((Below.refl _ w2).alloc (Nat.le_refl _) _).trans (hB3.mono (by simp))
  have HB3 := Lib.hid (HB2.out.trans (hB3'.mono HB2.out.size))
  have hI3 := Lib.hid (hI2.out.below hB3')
  have hd : decide (([1, 2] : List Int) = [1, 2]) = true := by decide
  clear hB3 hB3' hI2 HB2 HC2 HCC
  go_wp2_with fail
  refine (count_calls x _ _ 5 9 w3 hI3.out HS3.out (by decide)).mono ?_
  rintro e w4 ⟨rfl, hB4⟩
  have e2 : (rangeE [(3, 2), (5, 1), (7, 2)] 5 9).length = 2 := by decide
  rw [e2]
  have HB4 := Lib.hid (HB3.out.trans (hB4.mono HB3.out.size))
  clear hB4 hI3 HB3 e2
  go_wp2_with fail
  go_ret
  exact ⟨rfl, HB4.out⟩
end Go.Proofs.Ytdbdkcmbenokbaa.G

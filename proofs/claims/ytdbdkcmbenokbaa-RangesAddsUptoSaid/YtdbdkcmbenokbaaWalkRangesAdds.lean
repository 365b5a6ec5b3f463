/- RangesAdds: the law's walk: whatever entries (at most 1048576) and bounds come in, it answers true. -/
import Derived.Test.YtdbdkcmbenokbaaGKinds
namespace Go.Proofs.Ytdbdkcmbenokbaa.H
open Go.RowKit Go.Lib Go.Shelf Go.Proofs.YtdbdkcmbenokbaaW.PrintWords Go.Proofs.YtdbdkcmbenokbaaW.PrintMore Go.Proofs.Ytdbdkcmbenokbaa.PAll Go.Proofs.Ytdbdkcmbenokbaa.G
set_option linter.unusedVariables false

set_option maxRecDepth 100000 in
set_option maxHeartbeats 4000000 in
theorem rangesAdds_walk (A0 : Option Addr) (c0 : Nat) (l0 : List S32) (n1 n2 : Int) (W : World) (hC0 : Kd.C k32 W A0 l0.length l0) (hl0 : l0.length ≤ c0) (hG0 : R.AllG EnG l0) (hG1 : R.I64r n1) (hG2 : R.I64r n2) :
    Calls Try.prog 3 #[.slice A0 l0.length c0, .int .i64 n1, .int .i64 n2] W fun e w' => e = .returned (.bool true) ∧ Below W.heap.size W w' := by
  obtain ⟨hn0, hg0⟩ := hG0
  have hlenL : (norm (l0.map toP)).length ≤ 1048576 := by have := norm_le (l0.map toP); rw [List.length_map] at this; omega
  have CB := build_calls A0 c0 (l0.map toP) W (rdE_of_C hC0) (by rw [List.length_map]; omega)
  rw [List.length_map] at CB
  have hss := norm_sorted (l0.map toP)
  have hall : rangeE (norm (l0.map toP)) (-9223372036854775808) 9223372036854775807 = norm (l0.map toP) := range_all _ _ _ fun e he => by
    rw [mem_norm, List.mem_map] at he
    obtain ⟨s, hs, rfl⟩ := he
    exact (hg0 s hs).1
  generalize norm (l0.map toP) = L at *
  have KC := fun x (lo hi : Int) w (hI : Idx w W.heap.size x L) => count_calls x _ L lo hi w hI hss (by omega)
  have KB := fun x (lo hi : Int) w (hI : Idx w W.heap.size x L) => between_calls x _ L lo hi w hI hss (by omega)
  have e1 := fun (h1 : n1 ≤ n2) (h2 : n2 < 9223372036854775807) => counts_add L n1 n2 9223372036854775807 h1 h2
  have e3 := rangeI_count L n1 n2
  have b1 := rangeE_le L n1 n2
  have b2 := rangeE_le L (n2 + 1) 9223372036854775807
  have e4 := congrArg List.length hall
  change n1 ≤ n2 → n2 < 9223372036854775807 → (rangeE L n1 n2).length + (rangeE L (n2 + 1) 9223372036854775807).length = (rangeE L n1 9223372036854775807).length at e1
  have K1 := fun x w hI => KC x n2 n1 w hI
  have K2 := fun x w hI => KC x n1 n2 w hI
  have K3 := fun x w hI => KC x (n2 + 1) 9223372036854775807 w hI
  have K4 := fun x w hI => KC x n1 9223372036854775807 w hI
  have K5 := fun x w hI => KC x (-9223372036854775808) 9223372036854775807 w hI
  have K6 := fun x w hI => KB x n1 n2 w hI
  generalize (rangeE L n2 n1).length = a0 at K1
  generalize (rangeE L n1 n2).length = a1 at *
  generalize (rangeE L (n2 + 1) 9223372036854775807).length = a2 at *
  generalize (rangeE L n1 9223372036854775807).length = a3 at *
  generalize (rangeE L (-9223372036854775808) 9223372036854775807).length = a4 at *
  have E1 := Lib.hid e1
  have E3 := Lib.hid e3
  have E4 := Lib.hid e4
  clear KC KB hC0 hall hss hg0 e1 e3 e4
  go_enter Try.func3, Try.ntmps3
  go_wp2_with fail
  refine CB.mono ?_
  rintro e w1 ⟨x, rfl, hI, hB⟩
  clear CB
  go_wp2_with fail
  refine (awake_calls w1).mono ?_
  rintro e w2 ⟨rfl, hB2⟩
  have hI2 := Lib.hid (hI.below hB2)
  have HB2 := Lib.hid (hB.trans (hB2.mono hB.size))
  clear hI hB hB2
  by_cases h1 : n1 ≤ n2
  · by_cases h2 : n2 = 9223372036854775807
    · have hd : decide (n1 > n2) = false := decide_eq_false (by omega)
      have hd2 : (n2 == 9223372036854775807) = true := beq_iff_eq.mpr h2
      clear h2
      go_wp2_with fail
      refine (K1 x w2 hI2.out).mono ?_
      rintro e w3 ⟨rfl, hB3⟩
      have HB3 := Lib.hid (HB2.out.trans (hB3.mono HB2.out.size))
      clear hB3
      go_wp2_with fail
      go_ret
      exact ⟨rfl, HB3.out⟩
    · have hd : decide (n1 > n2) = false := decide_eq_false (by omega)
      have hd2 : (n2 == 9223372036854775807) = false := beq_eq_false_iff_ne.2 h2
      have h3 : n2 < 9223372036854775807 := by have := hG2.2; omega
      have h4 : (0 : Int) ≤ (n2 + 9223372036854775808) := by have := hG2.1; omega
      have e1 := E1.out h1 h3
      have p1 : ((a1 : Int) + (a2 : Int) == (a3 : Int)) = true := beq_iff_eq.mpr (by omega)
      have p2 : ((a4 : Int) == (L.length : Int)) = true := beq_iff_eq.mpr (by rw [E4.out])
      have p2' : (a4 == L.length) = true := beq_iff_eq.mpr E4.out
      have e3 := E3.out
      generalize hli : rangeI L n1 n2 = li at K6 e3
      have p3 : decide ((li.length : Int) ≤ (a1 : Int)) = true := decide_eq_true (by omega)
      have p3' : decide (li.length ≤ a1) = true := decide_eq_true e3
      have b3 : a1 ≤ 1048576 := Nat.le_trans b1 hlenL
      have b4 : a2 ≤ 1048576 := Nat.le_trans b2 hlenL
      clear h2 hli e1 e3 b1 b2 hlenL
      go_wp2_with fail
      refine (K2 x w2 hI2.out).mono ?_
      rintro e w3 ⟨rfl, hB3⟩
      have hI3 := Lib.hid (hI2.out.below hB3)
      have HB3 := Lib.hid (HB2.out.trans (hB3.mono HB2.out.size))
      clear hB3 hI2 HB2
      go_wp2_with fail
      refine (K3 x w3 hI3.out).mono ?_
      rintro e w4 ⟨rfl, hB4⟩
      have hI4 := Lib.hid (hI3.out.below hB4)
      have HB4 := Lib.hid (HB3.out.trans (hB4.mono HB3.out.size))
      clear hB4 hI3 HB3
      go_wp2_with fail
      refine (K4 x w4 hI4.out).mono ?_
      rintro e w5 ⟨rfl, hB5⟩
      have hI5 := Lib.hid (hI4.out.below hB5)
      have HB5 := Lib.hid (HB4.out.trans (hB5.mono HB4.out.size))
      clear hB5 hI4 HB4
      go_wp2_with fail
      refine (K5 x w5 hI5.out).mono ?_
      rintro e w6 ⟨rfl, hB6⟩
      have hI6 := Lib.hid (hI5.out.below hB6)
      have HB6 := Lib.hid (HB5.out.trans (hB6.mono HB5.out.size))
      clear hB6 hI5 HB5
      go_wp2_with fail
      refine (len_calls x _ _ w6 hI6.out).mono ?_
      rintro e w6' ⟨rfl, hw⟩
      obtain rfl : w6 = w6' := hw.symm
      clear hw
      go_wp2_with fail
      refine (K6 x w6 hI6.out).mono ?_
      rintro e w7 ⟨v7, rfl, hR7, hB7⟩
      obtain ⟨A7, c7, rfl, hc7, hC7⟩ := R_C hR7
      have hI7 := Lib.hid (hI6.out.below hB7)
      have HB7 := Lib.hid (HB6.out.trans (hB7.mono HB6.out.size))
      clear hB7 hI6 HB6 hR7 hc7 hC7
      go_wp2_with fail
      refine (K2 x w7 hI7.out).mono ?_
      rintro e w8 ⟨rfl, hB8⟩
      have HB8 := Lib.hid (HB7.out.trans (hB8.mono HB7.out.size))
      clear hB8 hI7 HB7
      go_wp2_with fail
      go_ret
      exact ⟨rfl, HB8.out⟩
  · have hd : decide (n1 > n2) = true := decide_eq_true (by omega)
    go_wp2_with fail
    refine (K1 x w2 hI2.out).mono ?_
    rintro e w3 ⟨rfl, hB3⟩
    have HB3 := Lib.hid (HB2.out.trans (hB3.mono HB2.out.size))
    clear hB3
    go_wp2_with fail
    go_ret
    exact ⟨rfl, HB3.out⟩
end Go.Proofs.Ytdbdkcmbenokbaa.H

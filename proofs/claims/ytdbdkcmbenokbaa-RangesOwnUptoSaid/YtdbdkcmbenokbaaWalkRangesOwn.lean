/- RangesOwn: the law's walk: whatever entries (at most 1048576) and bounds come in, it answers true. -/
import Derived.Test.YtdbdkcmbenokbaaGRefC
namespace Go.Proofs.Ytdbdkcmbenokbaa.H
open Go.RowKit Go.Lib Go.Shelf Go.Proofs.YtdbdkcmbenokbaaW.PrintWords Go.Proofs.YtdbdkcmbenokbaaW.PrintMore Go.Proofs.Ytdbdkcmbenokbaa.PAll Go.Proofs.Ytdbdkcmbenokbaa.G
set_option linter.unusedVariables false

set_option maxRecDepth 100000 in
set_option maxHeartbeats 8000000 in
theorem rangesOwn_walk (A0 : Option Addr) (c0 : Nat) (l0 : List S32) (n1 n2 : Int) (W : World) (hC0 : Kd.C k32 W A0 l0.length l0) (hl0 : l0.length ≤ c0) (hG0 : R.AllG EnG l0) (hG1 : R.I64r n1) (hG2 : R.I64r n2) :
    Calls Try.prog 6 #[.slice A0 l0.length c0, .int .i64 n1, .int .i64 n2] W fun e w' => e = .returned (.bool true) ∧ Below W.heap.size W w' := by
  obtain ⟨hn0, -⟩ := hG0
  have hlenL : (norm (l0.map toP)).length ≤ 1048576 := by have := norm_le (l0.map toP); rw [List.length_map] at this; omega
  have hss := norm_sorted (l0.map toP)
  have CB := build_calls A0 c0 (l0.map toP) W (rdE_of_C hC0) (by rw [List.length_map]; omega)
  have RB := fun w (hb : Below W.heap.size W w) => refBuild_calls A0 c0 l0 w (Kd.C_below hC0 hb) hl0 hn0
  rw [List.length_map] at CB
  clear hC0
  generalize norm (l0.map toP) = L at *
  have KB := fun x base w (hI : Idx w base x L) => between_calls x base L n1 n2 w hI hss (by omega)
  have KE := fun x base w (hI : Idx w base x L) => entries_calls x base L w hI (by omega)
  have RBt := fun A c w (h : RdE w A L) (hc : L.length ≤ c) => refBetween_calls A c L n1 n2 w h hc hlenL
  have hrl : (rangeI L n1 n2).length ≤ 1048576 := Nat.le_trans (rangeI_le _ _ _) hlenL
  generalize rangeI L n1 n2 = ri at *
  go_enter Try.func6, Try.ntmps6
  go_wp2_with fail
  refine CB.mono ?_
  rintro e w1 ⟨x, rfl, hI, hB1⟩
  have HI := Lib.hid hI
  have HB1 := Lib.hid hB1
  clear CB hI hB1
  go_wp2_with fail
  refine (awake_calls w1).mono ?_
  rintro e w2 ⟨rfl, hB⟩
  have HI2 := Lib.hid (HI.out.below hB)
  have HB2 := Lib.hid (HB1.out.trans (hB.mono HB1.out.size))
  clear hB HI HB1
  go_wp2_with fail
  refine (RB w2 HB2.out).mono ?_
  rintro e w3 ⟨A3, c3, rfl, hc3, hr3, hB⟩
  have HI3 := Lib.hid (HI2.out.below hB)
  have HB3 := Lib.hid (HB2.out.trans (hB.mono HB2.out.size))
  have HR3 := Lib.hid hr3
  have HC3 := Lib.hid hc3
  clear RB hB hr3 hc3 HI2 HB2
  go_wp2_with fail
  refine (KE x _ w3 HI3.out).mono ?_
  rintro e w4 ⟨v4, rfl, hv4, hB4⟩
  obtain ⟨A4, c4, rfl, hc4⟩ := hv4.slice
  have HI4 := Lib.hid (HI3.out.below hB4)
  go_wp2_with fail
  refine (KB x _ w4 HI4.out).mono ?_
  rintro e w5 ⟨v5, rfl, hR5, hB5⟩
  obtain ⟨A5, c5, rfl⟩ := Kd.R_slice hR5
  have hv5 := hv4.below hB5
  have hB35 := hB4.trans (hB5.mono hB4.size)
  have hR5' := Kd.R_lower hR5 hB4.size
  have HV5 := Lib.hid hv5
  have HR5 := Lib.hid hR5'
  have HB35 := Lib.hid hB35
  clear hv4 hB4 HI4 hB5 hR5 hv5 hR5' hB35
  go_wp2_with fail
  go_loopw [11] (fun s wr => ∃ (i : Nat) (l : List En), i ≤ L.length ∧ s = .int .i64 i ∧ l.length = L.length ∧ RowV wr w3.heap.size (.slice A4 L.length c4) l ∧ Kd.R (Kd.int .i64) 3 wr w3.heap.size (fun _ => True) (.slice A5 ri.length c5) ri ∧ Below w3.heap.size w3 wr) (fun s _ => L.length - (intOf s).toNat)
  case atStart => exact ⟨0, L, by omega, rfl, rfl, HV5.out, HR5.out, HB35.out⟩
  case round =>
    clear HV5 HR5 HB35
    obtain ⟨i, l, hi, rfl, hll, hv, hR, hb⟩ := hrel
    by_cases hlt : i < L.length
    · have hlt' : decide ((i : Int) < (L.length : Int)) = true := decide_eq_true (by omega)
      obtain ⟨g, cells, rfl, -, hg, hbk, ⟨k0, k1⟩, ⟨k2, k3⟩, c2, k4⟩ := hv.at (i := i) (by omega)
      have q1 : ((i : Int) < (L.length : Int)) = True := eq_true (by omega)
      have q2 : (i < L.length) = True := eq_true hlt
      have HV := Lib.hid hv
      have HR := Lib.hid hR
      have HBb := Lib.hid hb
      have HLL := Lib.hid hll
      have HBK := Lib.hid hbk
      generalize l.toArray[i]!.1 = o1 at *
      generalize l.toArray[i]!.2 = o2 at *
      clear hv hR hb hll hbk
      go_wp2_with fail
      refine ⟨⟨i + 1, l.set i (0, 0), by omega, by go_num, by rw [List.length_set]; exact HLL.out, HV.out.set (by rw [HLL.out]; exact hlt) 0 0, ?_, ?_⟩, by simp only [intOf]; omega⟩
      · exact Kd.R_set (Kd.R_set HR.out HBK.out (by decide) _ _) (G.blk_set HBK.out _ _) (by decide) _ _
      · exact (HBb.out.setCell (by exact hg) _).setCell (by exact hg) _
    · obtain rfl : i = L.length := by omega
      have hlt' : decide ((L.length : Int) < (L.length : Int)) = false := decide_eq_false (by omega)
      have HR := Lib.hid hR
      have HBb := Lib.hid hb
      clear hv hR hb hll hlt hi
      go_wp2_with fail
      go_loopw [12] (fun s wr => ∃ (i : Nat) (l : List Int), i ≤ ri.length ∧ s = .int .i64 i ∧ l.length = ri.length ∧ Kd.R (Kd.int .i64) 3 wr w3.heap.size (fun _ => True) (.slice A5 ri.length c5) l ∧ Below w3.heap.size w3 wr) (fun s _ => ri.length - (intOf s).toNat)
      case atStart => exact ⟨0, ri, by omega, rfl, rfl, HR.out, HBb.out⟩
      case round =>
        clear HR HBb
        obtain ⟨i, l, hi, rfl, hll, hR, hb⟩ := hrel
        by_cases hlt : i < ri.length
        · have hlt' : decide ((i : Int) < (ri.length : Int)) = true := decide_eq_true (by omega)
          obtain ⟨g, cap, e5, hg, -⟩ := Kd.R_form hR (by omega)
          injection e5 with ea _ _
          subst ea
          obtain ⟨k0, k1⟩ := Kd.R_celln (0 : Int) hR (i : Int) (by omega) (by omega)
          rw [Int.toNat_natCast] at k0 k1
          have hR2 := Kd.R_putn hR (i : Int) (-5)
          rw [Int.toNat_natCast] at hR2
          have q1 : ((i : Int) < (ri.length : Int)) = True := eq_true (by omega)
          have q2 : (i < ri.length) = True := eq_true hlt
          have HR2 := Lib.hid hR2
          have HBb := Lib.hid hb
          have HLL := Lib.hid hll
          generalize rdOf (0 : Int) l (i : Int) = o1 at *
          clear hR hR2 hb hll
          go_wp2_with fail
          exact ⟨⟨i + 1, l.set i (-5), by omega, by go_num, by rw [List.length_set]; exact HLL.out, HR2.out, HBb.out.setCell (by exact hg) _⟩, by simp only [intOf]; omega⟩
        · obtain rfl : i = ri.length := by omega
          have hlt' : decide ((ri.length : Int) < (ri.length : Int)) = false := decide_eq_false (by omega)
          have HI6 := Lib.hid (HI3.out.below hb)
          have HR6 := Lib.hid (HR3.out.below hb)
          have HB6 := Lib.hid (HB3.out.trans (hb.mono HB3.out.size))
          clear hR hb hll hlt hi HI3 HR3 HB3
          generalize wr = w6 at *
          go_wp2_with fail
          refine (least_nil w6).mono ?_
          rintro e wx ⟨rfl, hw⟩
          obtain rfl : w6 = wx := hw.symm
          clear hw
          go_wp2_with fail
          refine (greatest_nil w6).mono ?_
          rintro e wx ⟨rfl, hw⟩
          obtain rfl : w6 = wx := hw.symm
          clear hw
          go_wp2_with fail
          refine (KE x _ w6 HI6.out).mono ?_
          rintro e w7 ⟨v7, rfl, hv7, hB⟩
          obtain ⟨A7, c7, rfl, hc7, hr7⟩ := rowV_read hv7
          have CS := sameV_calls A7 c7 L A3 c3 w7 hr7 hc7 (HR6.out.below hB) HC3.out (by omega)
          have HI7 := Lib.hid (HI6.out.below hB)
          have HR7 := Lib.hid (HR6.out.below hB)
          have HB7 := Lib.hid (HB6.out.trans (hB.mono HB6.out.size))
          clear hv7 hc7 hr7 hB HI6 HR6 HB6
          go_wp2_with fail
          refine CS.mono ?_
          rintro e w8 ⟨rfl, hB⟩
          have HI8 := Lib.hid (HI7.out.below hB)
          have HR8 := Lib.hid (HR7.out.below hB)
          have HB8 := Lib.hid (HB7.out.trans (hB.mono HB7.out.size))
          clear CS hB HI7 HR7 HB7
          go_wp2_with fail
          refine (KB x _ w8 HI8.out).mono ?_
          rintro e w9 ⟨v9, rfl, hR, hB⟩
          obtain ⟨A9, c9, rfl, hc9, hC9⟩ := R_C hR
          have CT := RBt A3 c3 w9 (HR8.out.below hB) HC3.out
          have HC9 := Lib.hid hC9
          have HCC9 := Lib.hid hc9
          have HB9 := Lib.hid (HB8.out.trans (hB.mono HB8.out.size))
          clear hR hC9 hc9 hB HI8 HR8 HB8
          go_wp2_with fail
          refine CT.mono ?_
          rintro e w10 ⟨v10, rfl, hR, hB⟩
          obtain ⟨A10, c10, rfl, hc10, hC10⟩ := R_C hR
          have CI := ints_calls A9 c9 ri A10 c10 ri w10 (Kd.C_below HC9.out hB) HCC9.out hC10 hc10 (by omega)
          rw [decide_eq_true rfl] at CI
          have HB10 := Lib.hid (HB9.out.trans (hB.mono HB9.out.size))
          clear CT hR hC10 hc10 hB HC9 HCC9 HB9
          go_wp2_with fail
          refine CI.mono ?_
          rintro e w11 ⟨rfl, hB⟩
          have HB11 := Lib.hid (HB10.out.trans (hB.mono HB10.out.size))
          have CN := between_of none n1 n2 [] w11 (by simp) (part_nil n1 n2 w11)
          rw [List.map_nil, unionL_nil] at CN
          clear CI hB HB10
          go_wp2_with fail
          refine CN.mono ?_
          rintro e w12 ⟨v12, rfl, hR, hB⟩
          obtain ⟨A12, c12, rfl⟩ := Kd.R_slice hR
          have HB12 := Lib.hid (HB11.out.trans (hB.mono HB11.out.size))
          clear CN hR hB HB11
          go_wp2_with fail
          refine (count_of none n1 n2 [] w12 (part_nil n1 n2 w12)).mono ?_
          rintro e w13 ⟨rfl, hB⟩
          have HB13 := Lib.hid (HB12.out.trans (hB.mono HB12.out.size))
          clear hB HB12
          go_wp2_with fail
          refine (len_nil w13).mono ?_
          rintro e wx ⟨rfl, hw⟩
          obtain rfl : w13 = wx := hw.symm
          clear hw
          go_wp2_with fail
          refine (entries_nil w13).mono ?_
          rintro e wx ⟨rfl, hw⟩
          obtain rfl : w13 = wx := hw.symm
          clear hw
          go_wp2_with fail
          go_ret
          exact ⟨rfl, HB13.out⟩
end Go.Proofs.Ytdbdkcmbenokbaa.H

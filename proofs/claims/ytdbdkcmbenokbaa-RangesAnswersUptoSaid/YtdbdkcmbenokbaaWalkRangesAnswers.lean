/- RangesAnswers: the law's walk: whatever entries (at most 1048576) and bounds come in, it answers true. -/
import Derived.Test.YtdbdkcmbenokbaaGAns
namespace Go.Proofs.Ytdbdkcmbenokbaa.H
open Go.RowKit Go.Lib Go.Shelf Go.Proofs.YtdbdkcmbenokbaaW.PrintWords Go.Proofs.YtdbdkcmbenokbaaW.PrintMore Go.Proofs.Ytdbdkcmbenokbaa.PAll Go.Proofs.Ytdbdkcmbenokbaa.G
set_option linter.unusedVariables false

set_option maxRecDepth 100000 in
set_option maxHeartbeats 8000000 in
theorem rangesAnswers_walk (A0 : Option Addr) (c0 : Nat) (l0 : List S32) (n1 n2 : Int) (W : World) (hC0 : Kd.C k32 W A0 l0.length l0) (hl0 : l0.length ≤ c0) (hG0 : R.AllG EnG l0) (hG1 : R.I64r n1) (hG2 : R.I64r n2) :
    Calls Try.prog 5 #[.slice A0 l0.length c0, .int .i64 n1, .int .i64 n2] W fun e w' => e = .returned (.bool true) ∧ Below W.heap.size W w' := by
  obtain ⟨hn0, -⟩ := hG0
  have hlenL : (norm (l0.map toP)).length ≤ 1048576 := by have := norm_le (l0.map toP); rw [List.length_map] at this; omega
  have hss := norm_sorted (l0.map toP)
  have e0 : (l0.map toP).length = l0.length := List.length_map _
  have RB := fun w (hb : Below W.heap.size W w) => refBuildV_calls A0 c0 l0 w (Kd.C_below hC0 hb) hl0 hn0
  have CB := fun g cap w (h : Given W (l0.map toP) g cap w) => build_calls (some ⟨g, 0, none⟩) cap (l0.map toP) w h.read (by rw [List.length_map]; omega)
  have CS0 := fun g cap w w' (h : Given W (l0.map toP) g cap w) (hb : Below w.heap.size w w') => sameV_calls (some ⟨g, 0, none⟩) cap (l0.map toP) A0 c0 w' (h.read.below hb) (by have := h.cap; omega) (rdE_of_C (Kd.C_below hC0 (h.B.trans (hb.mono h.B.size)))) (by omega) (by omega)
  rw [List.length_map] at CB CS0
  have hm : ∀ g cap w, Given W (l0.map toP) g cap w → w.cell? ⟨g, l0.length * 2, none⟩ = some (.int .i64 (-77)) ∧ l0.length + 1 ≤ cap := fun g cap w h => by
    have h1 := h.last
    have h2 := h.cap
    rw [List.length_map] at h1 h2
    exact ⟨h1, h2⟩
  have HMM := Lib.hid hm
  clear hm e0
  generalize norm (l0.map toP) = L at *
  have KB := fun x base w (hI : Idx w base x L) => between_calls x base L n1 n2 w hI hss (by omega)
  have KC := fun x base w (hI : Idx w base x L) => count_calls x base L n1 n2 w hI hss (by omega)
  have KE := fun x base w (hI : Idx w base x L) => entries_calls x base L w hI (by omega)
  have RBt := fun A c w (h : RdE w A L) (hc : L.length ≤ c) => refBetween_calls A c L n1 n2 w h hc hlenL
  have RCt := fun A c w (h : RdE w A L) (hc : L.length ≤ c) => refCount_calls A c L n1 n2 w h hc hlenL
  have hrl : (rangeI L n1 n2).length ≤ 1048576 := Nat.le_trans (rangeI_le _ _ _) hlenL
  generalize rangeI L n1 n2 = ri at *
  generalize (rangeE L n1 n2).length = rc at *
  go_enter Try.func5, Try.ntmps5
  go_wp2_with (first
    | ((with_reducible refine gate_builtin (b := .append) (xs := #[.const (.slice none 0 0), .tmp 15]) rfl ?_); at_builtin; refine Kd.R_append_rows k32 (Rr := k32.K W) (w0 := W) (W := W) W.heap.size rfl (.const (.slice none 0 0)) (.tmp 15) 22 32 (.agg #[.int .i64 0, .int .i64 0]) 16 rfl Try.underlying22 info32 rfl (by decide) (by decide) (.slice none 0 0) [] l0 A0 l0.length c0 (fun _ => True) (fun _ => False) rfl rfl (Kd.R_nil _ _ _ _ _) hC0 (fun x cs h => k_KM h) (fun _ h => h.elim) (fun _ _ => trivial) (Below.refl _ _) (Nat.le_refl _) ?e3 ?_; (case e3 => simp; omega); intro v1 w1 hR1 hb1 hg1 hat1; rw [List.nil_append] at hR1; obtain ⟨A9, c9, rfl⟩ := Kd.R_slice hR1)
    | ((with_reducible refine gate_builtin (b := .append) (xs := #[.tmp 16, .tmp 18]) rfl ?_); at_builtin; refine Kd.R_append k32 (w0 := W) (W := w1) W.heap.size rfl (.tmp 16) (.tmp 18) 22 32 (.agg #[.int .i64 0, .int .i64 0]) 16 rfl Try.underlying22 info32 rfl (by decide) (by decide) (.slice A9 l0.length c9) l0 ⟨-77, 0⟩ [.int .i64 (-77), .int .i64 0] (fun _ => True) (fun _ => False) rfl rfl (k32_mkM _ _ _ ⟨-77, 0⟩) (fun _ h => h.elim) (fun _ _ => trivial) hR1 hb1 hb1.size ?e4 ?_; (case e4 => omega); intro v2 w2 hR2 hb2 hg2 hat2; obtain ⟨g, cap, e9, hg9, -, -⟩ := Kd.R_form hR2 (by simp); rw [List.length_append, List.length_singleton] at e9; subst e9; have hcp := (Kd.R_reads' hR2).2.1; have q1 : ((l0.length : Int) ≤ (cap : Int)) = True := eq_true (by omega); have q2 : (l0.length ≤ cap) = True := eq_true (by omega); have q3 : ((l0.length : Int) < (l0.length : Int) + 1) = True := eq_true (by omega); have q4 : (l0.length < l0.length + 1) = True := eq_true (by omega))
    | fail)
  have hv2 := rowV_of_R hR2
  rw [List.map_append] at hv2
  have hG : Given W (l0.map toP) g cap w2 := by
    rcases hv2 with ⟨h, _⟩ | ⟨g', cap', e, h1, h2⟩
    · simp at h
    · injection e with ea _ ec
      injection ea with ea
      injection ea with ea
      subst ea ec
      exact ⟨h2, h1, hb2⟩
  have HGv := Lib.hid hG
  clear hR1 hb1 hg1 hat1 hR2 hb2 hg2 hat2 hv2 hG hC0
  obtain ⟨k77, hcap⟩ := HMM.out g cap w2 HGv.out
  have K77 := Lib.hid k77
  clear k77 HMM
  go_wp2_with fail
  refine (CB g cap w2 HGv.out).mono ?_
  rintro e w3 ⟨x, rfl, hI, hB3⟩
  have HI3 := Lib.hid hI
  have HB23 := Lib.hid hB3
  clear CB hI hB3
  go_wp2_with fail
  refine (RB w3 (HGv.out.B.trans (HB23.out.mono HGv.out.B.size))).mono ?_
  rintro e w4 ⟨A4, c4, rfl, hc4, hv4, hB⟩
  have HI4 := Lib.hid (HI3.out.below hB)
  have HV4 := Lib.hid hv4
  have HC4 := Lib.hid hc4
  have HB24 := Lib.hid (HB23.out.trans (hB.mono HB23.out.size))
  have HZ := Lib.hid HB23.out.size
  clear RB hv4 hc4 hB HI3 HB23
  go_wp2_with fail
  refine (CS0 g cap w2 w4 HGv.out HB24.out).mono ?_
  rintro e w5 ⟨rfl, hB⟩
  have HI5 := Lib.hid (HI4.out.below hB)
  have HV5 := Lib.hid (HV4.out.below hB)
  have HB25 := Lib.hid (HB24.out.trans (hB.mono HB24.out.size))
  have k77 := (HB25.out.cell (p := ⟨g, l0.length * 2, none⟩) HGv.out.D.lt).trans K77.out
  clear CS0 hB HI4 HV4 HB24
  have HD5 := Lib.hid (HGv.out.D.below HB25.out)
  have HBW := Lib.hid (HGv.out.B.trans (HB25.out.mono HGv.out.B.size))
  have HGL := Lib.hid HGv.out.lo
  have HGT := Lib.hid HGv.out.D.lt
  clear HB25 K77 HGv
  go_wp2_with fail
  have hlen1 : (l0.map toP ++ [((-77 : Int), (0 : Int))]).length = l0.length + 1 := by simp
  go_loopw [10] (fun s wr => ∃ (i : Nat) (l : List En), i ≤ l0.length ∧ s = .int .i64 i ∧ l.length = l0.length + 1 ∧ RowD wr g cap l.toArray ∧ Idx wr w2.heap.size x L ∧ RowV wr w3.heap.size (.slice A4 L.length c4) L ∧ Below W.heap.size W wr) (fun s _ => l0.length - (intOf s).toNat)
  case atStart => exact ⟨0, _, by omega, rfl, hlen1, HD5.out, HI5.out, HV5.out, HBW.out⟩
  case round =>
    clear HD5 HI5 HV5 HBW hlen1 k77
    obtain ⟨i, l, hi, rfl, hll, hd, hI, hv, hb⟩ := hrel
    by_cases hlt : i < l0.length
    · have hlt' : decide ((i : Int) < (l0.length : Int)) = true := decide_eq_true (by omega)
      obtain ⟨⟨k0, k1⟩, ⟨k2, k3⟩, k4⟩ := hd.cell (j := i) (by simp; omega)
      have p1 : ((i : Int) < (l0.length : Int) + 1) = True := eq_true (by omega)
      have p2 : (i < l0.length + 1) = True := eq_true (by omega)
      have HD := Lib.hid hd
      have HI := Lib.hid hI
      have HV := Lib.hid hv
      have HBb := Lib.hid hb
      have HLL := Lib.hid hll
      generalize l.toArray[i]!.1 = o1 at *
      generalize l.toArray[i]!.2 = o2 at *
      clear hd hI hv hb hll
      go_wp2_with fail
      refine ⟨⟨i + 1, l.set i (78, 78), by omega, by go_num, by rw [List.length_set]; exact HLL.out, ?_, HI.out.grown (write_grown _ g i _ _) (fun k e => by cases e; exact HGT.out), HV.out.grown (write_grown _ g i _ _) (fun k e => by cases e; exact Nat.lt_of_lt_of_le HGT.out HZ.out), ?_⟩, by simp only [intOf]; omega⟩
      · have := HD.out.set (k := i) (by have := HLL.out; simp; omega) 78 78
        rwa [List.setIfInBounds_toArray] at this
      · exact (HBb.out.setCell (by exact HGL.out) _).setCell (by exact HGL.out) _
    · obtain rfl : i = l0.length := by omega
      have hlt' : decide ((l0.length : Int) < (l0.length : Int)) = false := decide_eq_false (by omega)
      have HI6 := Lib.hid hI
      have HV6 := Lib.hid hv
      have HB6 := Lib.hid hb
      clear hd hI hv hb hll hlt hi
      generalize wr = w6 at *
      by_cases hL : 0 < L.length
      · obtain ⟨g4, cells4, rfl, -, -, -, ⟨m0, -⟩, -, -⟩ := HV6.out.at (i := 0) hL
        obtain ⟨g5, cells5, e5, -, -, -, ⟨m1, -⟩, -, -⟩ := HV6.out.at (i := L.length - 1) (by omega)
        cases e5
        rw [Nat.zero_mul] at m0
        have CL := least_some x _ L w6 HI6.out hL
        have CG := greatest_some x _ L w6 HI6.out hL (by omega)
        generalize L.toArray[0]!.1 = z0 at *
        generalize L.toArray[L.length - 1]!.1 = z1 at *
        have p1 : decide ((L.length : Int) > 0) = true := decide_eq_true (by omega)
        have p2 : ((0 : Int) < (L.length : Int)) = True := eq_true (by omega)
        have p3 : (0 < L.length) = True := eq_true hL
        have p4 : ((1 : Int) ≤ (L.length : Int)) = True := eq_true (by omega)
        have p5 : (L.length : Int) - 1 < (L.length : Int) := by omega
        have p6 : ((L.length : Int) - 1).toNat = L.length - 1 := by omega
        have M1 := Lib.hid m1
        clear m1
        go_wp2_with fail
        refine CL.mono ?_
        rintro e wx ⟨rfl, hw⟩
        obtain rfl : w6 = wx := hw.symm
        clear hw CL
        go_wp2_with fail
        refine CG.mono ?_
        rintro e w6' ⟨rfl, q, hw⟩
        have hB6' : Below w6.heap.size w6 w6' := by rw [hw]; exact pw_below_drewN (Below.refl _ _) q
        have m0' := (hB6'.cell (p := ⟨g4, 0, none⟩) (World.block_lt_of_cell? _ _ m0)).trans m0
        have m1' := (hB6'.cell (p := ⟨g4, (L.length - 1) * 2, none⟩) (World.block_lt_of_cell? _ _ M1.out)).trans M1.out
        have HIa := Lib.hid (HI6.out.below hB6')
        have HVa := Lib.hid (HV6.out.below hB6')
        have HBa := Lib.hid (HB6.out.trans (hB6'.mono HB6.out.size))
        clear hw CG m0 M1 HI6 HV6 HB6 hB6'
        go_wp2_with fail
        refine (KE x _ w6' HIa.out).mono ?_
        rintro e w7 ⟨v7, rfl, hv7, hB⟩
        obtain ⟨A7, c7, rfl, hc7, hr7⟩ := rowV_read hv7
        have HI7 := Lib.hid (HIa.out.below hB)
        have HV7 := Lib.hid (HVa.out.below hB)
        have HB7 := Lib.hid (HBa.out.trans (hB.mono HBa.out.size))
        have CS := sameV_calls A7 c7 L (some ⟨g4, 0, none⟩) c4 w7 hr7 hc7 (RdE.of_row HV7.out) HC4.out (by omega)
        have hd := hB
        clear hv7 hc7 hr7 hB HIa HVa HBa m0' m1' hd
        go_wp2_with fail
        refine CS.mono ?_
        rintro e w8 ⟨rfl, hB⟩
        have HI8 := Lib.hid (HI7.out.below hB)
        have HV8 := Lib.hid (HV7.out.below hB)
        have HB8 := Lib.hid (HB7.out.trans (hB.mono HB7.out.size))
        clear CS hB HI7 HV7 HB7
        go_wp2_with fail
        refine (len_calls x _ _ w8 HI8.out).mono ?_
        rintro e wx ⟨rfl, hw⟩
        obtain rfl : w8 = wx := hw.symm
        clear hw
        go_wp2_with fail
        refine (KB x _ w8 HI8.out).mono ?_
        rintro e w9 ⟨v9, rfl, hR, hB⟩
        obtain ⟨A9', c9', rfl, hc9, hC9⟩ := R_C hR
        have HI9 := Lib.hid (HI8.out.below hB)
        have HV9 := Lib.hid (HV8.out.below hB)
        have HB9 := Lib.hid (HB8.out.trans (hB.mono HB8.out.size))
        have CT := RBt (some ⟨g4, 0, none⟩) c4 w9 (RdE.of_row HV9.out) HC4.out
        have HC9 := Lib.hid hC9
        have HCC9 := Lib.hid hc9
        clear hR hC9 hc9 hB HI8 HV8 HB8
        go_wp2_with fail
        refine CT.mono ?_
        rintro e w10 ⟨v10, rfl, hR, hB⟩
        obtain ⟨A10, c10, rfl, hc10, hC10⟩ := R_C hR
        have CI := ints_calls A9' c9' ri A10 c10 ri w10 (Kd.C_below HC9.out hB) HCC9.out hC10 hc10 (by omega)
        rw [decide_eq_true rfl] at CI
        have HI10 := Lib.hid (HI9.out.below hB)
        have HV10 := Lib.hid (HV9.out.below hB)
        have HB10 := Lib.hid (HB9.out.trans (hB.mono HB9.out.size))
        clear CT hR hC10 hc10 hB HC9 HCC9 HI9 HV9 HB9
        go_wp2_with fail
        refine CI.mono ?_
        rintro e w11 ⟨rfl, hB⟩
        have HI11 := Lib.hid (HI10.out.below hB)
        have HV11 := Lib.hid (HV10.out.below hB)
        have HB11 := Lib.hid (HB10.out.trans (hB.mono HB10.out.size))
        clear CI hB HI10 HV10 HB10
        go_wp2_with fail
        refine (KC x _ w11 HI11.out).mono ?_
        rintro e w12 ⟨rfl, hB⟩
        have CT := RCt (some ⟨g4, 0, none⟩) c4 w12 (RdE.of_row (HV11.out.below hB)) HC4.out
        have HB12 := Lib.hid (HB11.out.trans (hB.mono HB11.out.size))
        clear hB HI11 HV11 HB11
        go_wp2_with fail
        refine CT.mono ?_
        rintro e w13 ⟨rfl, hB⟩
        have HB13 := Lib.hid (HB12.out.trans (hB.mono HB12.out.size))
        clear CT hB HB12
        go_wp2_with fail
        refine (awake_calls w13).mono ?_
        rintro e w14 ⟨rfl, hB⟩
        have HB14 := Lib.hid (HB13.out.trans (hB.mono HB13.out.size))
        clear hB HB13
        go_wp2_with fail
        go_ret
        exact ⟨rfl, HB14.out⟩
      · have hL0 : L = [] := List.eq_nil_of_length_eq_zero (by omega)
        subst hL0
        have CL := least_none x _ w6 HI6.out
        have CG := greatest_none x _ w6 HI6.out
        have p1 : decide ((0 : Int) > 0) = false := rfl
        have HIa := HI6
        have HVa := HV6
        have HBa := HB6
        clear HI6 HV6 HB6 hL
        simp only [List.length_nil] at *
        go_wp2_with fail
        refine CL.mono ?_
        rintro e wx ⟨rfl, hw⟩
        obtain rfl : w6 = wx := hw.symm
        clear hw CL
        go_wp2_with fail
        refine CG.mono ?_
        rintro e wx ⟨rfl, hw⟩
        obtain rfl : w6 = wx := hw.symm
        clear hw CG
        generalize w6 = w6' at *
        go_wp2_with fail
        refine (KE x _ w6' HIa.out).mono ?_
        rintro e w7 ⟨v7, rfl, hv7, hB⟩
        obtain ⟨A7, c7, rfl, hc7, hr7⟩ := rowV_read hv7
        have HI7 := Lib.hid (HIa.out.below hB)
        have HV7 := Lib.hid (HVa.out.below hB)
        have HB7 := Lib.hid (HBa.out.trans (hB.mono HBa.out.size))
        have CS := sameV_calls A7 c7 [] A4 c4 w7 hr7 hc7 (RdE.of_row HV7.out) HC4.out (by simp)
        have hd := hB
        clear hv7 hc7 hr7 hB HIa HVa HBa hd
        go_wp2_with fail
        refine CS.mono ?_
        rintro e w8 ⟨rfl, hB⟩
        have HI8 := Lib.hid (HI7.out.below hB)
        have HV8 := Lib.hid (HV7.out.below hB)
        have HB8 := Lib.hid (HB7.out.trans (hB.mono HB7.out.size))
        clear CS hB HI7 HV7 HB7
        go_wp2_with fail
        refine (len_calls x _ _ w8 HI8.out).mono ?_
        rintro e wx ⟨rfl, hw⟩
        obtain rfl : w8 = wx := hw.symm
        clear hw
        go_wp2_with fail
        refine (KB x _ w8 HI8.out).mono ?_
        rintro e w9 ⟨v9, rfl, hR, hB⟩
        obtain ⟨A9', c9', rfl, hc9, hC9⟩ := R_C hR
        have HI9 := Lib.hid (HI8.out.below hB)
        have HV9 := Lib.hid (HV8.out.below hB)
        have HB9 := Lib.hid (HB8.out.trans (hB.mono HB8.out.size))
        have CT := RBt A4 c4 w9 (RdE.of_row HV9.out) HC4.out
        have HC9 := Lib.hid hC9
        have HCC9 := Lib.hid hc9
        clear hR hC9 hc9 hB HI8 HV8 HB8
        go_wp2_with fail
        refine CT.mono ?_
        rintro e w10 ⟨v10, rfl, hR, hB⟩
        obtain ⟨A10, c10, rfl, hc10, hC10⟩ := R_C hR
        have CI := ints_calls A9' c9' ri A10 c10 ri w10 (Kd.C_below HC9.out hB) HCC9.out hC10 hc10 (by omega)
        rw [decide_eq_true rfl] at CI
        have HI10 := Lib.hid (HI9.out.below hB)
        have HV10 := Lib.hid (HV9.out.below hB)
        have HB10 := Lib.hid (HB9.out.trans (hB.mono HB9.out.size))
        clear CT hR hC10 hc10 hB HC9 HCC9 HI9 HV9 HB9
        go_wp2_with fail
        refine CI.mono ?_
        rintro e w11 ⟨rfl, hB⟩
        have HI11 := Lib.hid (HI10.out.below hB)
        have HV11 := Lib.hid (HV10.out.below hB)
        have HB11 := Lib.hid (HB10.out.trans (hB.mono HB10.out.size))
        clear CI hB HI10 HV10 HB10
        go_wp2_with fail
        refine (KC x _ w11 HI11.out).mono ?_
        rintro e w12 ⟨rfl, hB⟩
        have CT := RCt A4 c4 w12 (RdE.of_row (HV11.out.below hB)) HC4.out
        have HB12 := Lib.hid (HB11.out.trans (hB.mono HB11.out.size))
        clear hB HI11 HV11 HB11
        go_wp2_with fail
        refine CT.mono ?_
        rintro e w13 ⟨rfl, hB⟩
        have HB13 := Lib.hid (HB12.out.trans (hB.mono HB12.out.size))
        clear CT hB HB12
        go_wp2_with fail
        refine (awake_calls w13).mono ?_
        rintro e w14 ⟨rfl, hB⟩
        have HB14 := Lib.hid (HB13.out.trans (hB.mono HB13.out.size))
        clear hB HB13
        go_wp2_with fail
        go_ret
        exact ⟨rfl, HB14.out⟩
end Go.Proofs.Ytdbdkcmbenokbaa.H

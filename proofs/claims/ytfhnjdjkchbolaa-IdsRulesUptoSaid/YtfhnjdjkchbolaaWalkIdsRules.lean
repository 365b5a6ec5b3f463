/- The walk of the law IdsRules, where what it reads is of bulk at most 1048576: every answer on its one way is known beforehand by the plain law of sets. -/
import Derived.Test.YtfhnjdjkchbolaaPB
import Derived.Test.YtfhnjdjkchbolaaPAllx0
import Derived.Test.YtfhnjdjkchbolaaPAllx11
import Derived.Test.YtfhnjdjkchbolaaPAllx8
import Derived.Test.YtfhnjdjkchbolaaPAllx5
import Derived.Lib.Hide
namespace Go.Proofs.Ytfhnjdjkchbolaa.PAll
open Go.RowKit Go.Proofs.YtfhnjdjkchbolaaW.PrintWords Go.Proofs.YtfhnjdjkchbolaaW.PrintLast Go.Proofs.YtfhnjdjkchbolaaW.PrintMore
set_option linter.unusedVariables false
set_option linter.unusedSimpArgs false

/-- How many stand in one at least, and in both. -/
theorem counts (a b : List Int) : (H.someL a b [1, 2, 3]).length + (H.someL a b [3]).length = (H.someL a [] [1, 2, 3]).length + (H.someL [] b [1, 2, 3]).length := by
  have ea : H.someL a [] [1, 2, 3] = H.setL a := H.rising_ext (H.someL_rising _ _ _) (H.setL_rising _) (fun x => by rw [H.mem_union, H.mem_setL]; simp)
  have eb : H.someL [] b [1, 2, 3] = H.setL b := H.rising_ext (H.someL_rising _ _ _) (H.setL_rising _) (fun x => by rw [H.mem_union, H.mem_setL]; simp)
  rw [ea, eb]
  have h0 : ∀ x y : List Int, ((H.mg x y).filter fun p => ([1, 2, 3] : List Int).contains p.2).length + ((H.mg x y).filter fun p => ([3] : List Int).contains p.2).length = x.length + y.length := by
    intro x y
    induction x, y using H.mg.induct with
    | case1 => simp [H.mg]
    | case2 a x ih => rw [H.mg]; simp [List.filter_cons] at ih ⊢; omega
    | case3 b y ih => rw [H.mg]; simp [List.filter_cons] at ih ⊢; omega
    | case4 a x b y h ih => rw [H.mg, if_pos h]; simp [List.filter_cons] at ih ⊢; omega
    | case5 a x b y h h2 ih => rw [H.mg, if_neg h, if_pos h2]; simp [List.filter_cons] at ih ⊢; omega
    | case6 a x b y h h2 ih => rw [H.mg, if_neg h, if_neg h2]; simp [List.filter_cons] at ih ⊢; omega
  have := h0 (H.setL a) (H.setL b)
  unfold H.someL
  rw [List.length_map, List.length_map]
  exact this

theorem uni_C {W : World} {A0 A1 : Option Addr} {c0 c1 : Nat} {l0 l1 : List Int} (hr0 : Kd.C (Kd.int .i64) W A0 l0.length l0) (hc0 : l0.length ≤ c0) (hr1 : Kd.C (Kd.int .i64) W A1 l1.length l1) (hc1 : l1.length ≤ c1) (hb : l0.length + l1.length < 17592186044416) :
    Calls Try.prog 18 #[.slice A0 l0.length c0, .slice A1 l1.length c1] W fun e w' => ∃ (A : Option Addr) (c : Nat) (r : List Int), e = .returned (.slice A r.length c) ∧ r.length ≤ c ∧ Kd.C (Kd.int .i64) w' A r.length r ∧ Hid (r = H.someL l0 l1 [1, 2, 3]) ∧ r.length ≤ l0.length + l1.length ∧ Below W.heap.size W w' := by
  refine (ids_Union.calls A0 c0 l0 A1 c1 l1 _ W hr0 hc0 hr1 hc1 (uni_some l0 l1 hb)).mono ?_
  rintro e w' ⟨v, rfl, hR, hB⟩
  obtain ⟨A, c, rfl, hl, hC⟩ := Kd.R_reads hR
  exact ⟨A, c, _, rfl, hl, hC, Lib.hid rfl, H.someL_le _ _ _, hB⟩
theorem int_C {W : World} {A0 A1 : Option Addr} {c0 c1 : Nat} {l0 l1 : List Int} (hr0 : Kd.C (Kd.int .i64) W A0 l0.length l0) (hc0 : l0.length ≤ c0) (hr1 : Kd.C (Kd.int .i64) W A1 l1.length l1) (hc1 : l1.length ≤ c1) (hb : l0.length + l1.length < 17592186044416) :
    Calls Try.prog 20 #[.slice A0 l0.length c0, .slice A1 l1.length c1] W fun e w' => ∃ (A : Option Addr) (c : Nat) (r : List Int), e = .returned (.slice A r.length c) ∧ r.length ≤ c ∧ Kd.C (Kd.int .i64) w' A r.length r ∧ Hid (r = H.someL l0 l1 [3]) ∧ r.length ≤ l0.length + l1.length ∧ Below W.heap.size W w' := by
  refine (ids_Inter.calls A0 c0 l0 A1 c1 l1 _ W hr0 hc0 hr1 hc1 (int_some l0 l1 hb)).mono ?_
  rintro e w' ⟨v, rfl, hR, hB⟩
  obtain ⟨A, c, rfl, hl, hC⟩ := Kd.R_reads hR
  exact ⟨A, c, _, rfl, hl, hC, Lib.hid rfl, H.someL_le _ _ _, hB⟩
theorem dif_C {W : World} {A0 A1 : Option Addr} {c0 c1 : Nat} {l0 l1 : List Int} (hr0 : Kd.C (Kd.int .i64) W A0 l0.length l0) (hc0 : l0.length ≤ c0) (hr1 : Kd.C (Kd.int .i64) W A1 l1.length l1) (hc1 : l1.length ≤ c1) (hb : l0.length + l1.length < 17592186044416) :
    Calls Try.prog 22 #[.slice A0 l0.length c0, .slice A1 l1.length c1] W fun e w' => ∃ (A : Option Addr) (c : Nat) (r : List Int), e = .returned (.slice A r.length c) ∧ r.length ≤ c ∧ Kd.C (Kd.int .i64) w' A r.length r ∧ Hid (r = H.someL l0 l1 [1]) ∧ r.length ≤ l0.length + l1.length ∧ Below W.heap.size W w' := by
  refine (ids_Diff.calls A0 c0 l0 A1 c1 l1 _ W hr0 hc0 hr1 hc1 (dif_some l0 l1 hb)).mono ?_
  rintro e w' ⟨v, rfl, hR, hB⟩
  obtain ⟨A, c, rfl, hl, hC⟩ := Kd.R_reads hR
  exact ⟨A, c, _, rfl, hl, hC, Lib.hid rfl, H.someL_le _ _ _, hB⟩
theorem same_C {W : World} {A0 A1 : Option Addr} {c0 c1 : Nat} {l0 l1 : List Int} (hr0 : Kd.C (Kd.int .i64) W A0 l0.length l0) (hc0 : l0.length ≤ c0) (hr1 : Kd.C (Kd.int .i64) W A1 l1.length l1) (hc1 : l1.length ≤ c1) (he : l0 = l1) (hb : l0.length ≤ 17592186044416) :
    Calls Try.prog 14 #[.slice A0 l0.length c0, .slice A1 l1.length c1] W fun e w' => e = .returned (.bool true) ∧ Below W.heap.size W w' := by
  obtain ⟨k, hk⟩ := (same_of he hb).rounds
  refine (lodestarlaw08_same.calls k A0 c0 l0 A1 c1 l1 true W hr0 hc0 hr1 hc1 hk).mono ?_
  rintro e w' ⟨rfl, hd⟩
  exact ⟨rfl, hd.below⟩

set_option maxRecDepth 100000 in
set_option maxHeartbeats 4000000 in
theorem rules_calls (A0 : Option Addr) (c0 : Nat) (l0 : List Int) (A1 : Option Addr) (c1 : Nat) (l1 : List Int) (A2 : Option Addr) (c2 : Nat) (l2 : List Int) (w : World) (hr0 : Kd.C (Kd.int .i64) w A0 l0.length l0) (hc0 : l0.length ≤ c0) (hr1 : Kd.C (Kd.int .i64) w A1 l1.length l1) (hc1 : l1.length ≤ c1) (hr2 : Kd.C (Kd.int .i64) w A2 l2.length l2) (hc2 : l2.length ≤ c2)
    (ha : l0.length ≤ 1048576) (hb : l1.length ≤ 1048576) (hc : l2.length ≤ 1048576) :
    Calls Try.prog 8 #[.slice A0 l0.length c0, .slice A1 l1.length c1, .slice A2 l2.length c2] w fun e w' => e = .returned (.bool true) ∧ Below w.heap.size w w' := by
  have hB := Below.refl w.heap.size w
  go_enter Try.func8, Try.ntmps8
  go_wp2_with fail
  refine (uni_C (c0 := c0) (c1 := c1) hr0 hc0 hr1 hc1 (by first | omega | (simp only [List.length_nil]; omega))).mono ?_
  rintro e w1 ⟨B1, k1, r1, rfl, hk1, hC1, E1, hL1, hBn⟩
  replace hr0 := Kd.C_below hr0 hBn
  replace hr1 := Kd.C_below hr1 hBn
  replace hr2 := Kd.C_below hr2 hBn
  replace hB := H.below_tt hB hBn
  clear hBn
  try simp only [List.length_nil, Nat.zero_add, Nat.add_zero] at hL1
  go_wp2_with fail
  refine (uni_C (c0 := c1) (c1 := c0) hr1 hc1 hr0 hc0 (by first | omega | (simp only [List.length_nil]; omega))).mono ?_
  rintro e w2 ⟨B2, k2, r2, rfl, hk2, hC2, E2, hL2, hBn⟩
  replace hr0 := Kd.C_below hr0 hBn
  replace hr1 := Kd.C_below hr1 hBn
  replace hr2 := Kd.C_below hr2 hBn
  replace hC1 := Kd.C_below hC1 hBn
  replace hB := H.below_tt hB hBn
  clear hBn
  try simp only [List.length_nil, Nat.zero_add, Nat.add_zero] at hL2
  go_wp2_with fail
  have hEq : r1 = r2 := by rw [E1.out, E2.out]; exact sets_eq fun x => by rw [H.mem_union, H.mem_union, or_comm]
  have HE := Lib.hid hEq
  clear hEq
  refine (same_C (c0 := k1) (c1 := k2) hC1 hk1 hC2 hk2 HE.out (by omega)).mono ?_
  clear HE
  rintro e wd ⟨rfl, hBn⟩
  replace hr0 := Kd.C_below hr0 hBn
  replace hr1 := Kd.C_below hr1 hBn
  replace hr2 := Kd.C_below hr2 hBn
  replace hB := H.below_tt hB hBn
  clear hBn
  go_wp2_with fail
  refine (int_C (c0 := c0) (c1 := c1) hr0 hc0 hr1 hc1 (by first | omega | (simp only [List.length_nil]; omega))).mono ?_
  rintro e w3 ⟨B3, k3, r3, rfl, hk3, hC3, E3, hL3, hBn⟩
  replace hr0 := Kd.C_below hr0 hBn
  replace hr1 := Kd.C_below hr1 hBn
  replace hr2 := Kd.C_below hr2 hBn
  replace hB := H.below_tt hB hBn
  clear hBn
  try simp only [List.length_nil, Nat.zero_add, Nat.add_zero] at hL3
  go_wp2_with fail
  refine (int_C (c0 := c1) (c1 := c0) hr1 hc1 hr0 hc0 (by first | omega | (simp only [List.length_nil]; omega))).mono ?_
  rintro e w4 ⟨B4, k4, r4, rfl, hk4, hC4, E4, hL4, hBn⟩
  replace hr0 := Kd.C_below hr0 hBn
  replace hr1 := Kd.C_below hr1 hBn
  replace hr2 := Kd.C_below hr2 hBn
  replace hC3 := Kd.C_below hC3 hBn
  replace hB := H.below_tt hB hBn
  clear hBn
  try simp only [List.length_nil, Nat.zero_add, Nat.add_zero] at hL4
  go_wp2_with fail
  have hEq : r3 = r4 := by rw [E3.out, E4.out]; exact sets_eq fun x => by rw [H.mem_inter, H.mem_inter, and_comm]
  have HE := Lib.hid hEq
  clear hEq
  refine (same_C (c0 := k3) (c1 := k4) hC3 hk3 hC4 hk4 HE.out (by omega)).mono ?_
  clear HE
  rintro e wd ⟨rfl, hBn⟩
  replace hr0 := Kd.C_below hr0 hBn
  replace hr1 := Kd.C_below hr1 hBn
  replace hr2 := Kd.C_below hr2 hBn
  replace hB := H.below_tt hB hBn
  clear hBn
  go_wp2_with fail
  refine (uni_C (c0 := c1) (c1 := c2) hr1 hc1 hr2 hc2 (by first | omega | (simp only [List.length_nil]; omega))).mono ?_
  rintro e w5 ⟨B5, k5, r5, rfl, hk5, hC5, E5, hL5, hBn⟩
  replace hr0 := Kd.C_below hr0 hBn
  replace hr1 := Kd.C_below hr1 hBn
  replace hr2 := Kd.C_below hr2 hBn
  replace hB := H.below_tt hB hBn
  clear hBn
  try simp only [List.length_nil, Nat.zero_add, Nat.add_zero] at hL5
  go_wp2_with fail
  refine (uni_C (c0 := c0) (c1 := k5) hr0 hc0 hC5 hk5 (by first | omega | (simp only [List.length_nil]; omega))).mono ?_
  rintro e w6 ⟨B6, k6, r6, rfl, hk6, hC6, E6, hL6, hBn⟩
  replace hr0 := Kd.C_below hr0 hBn
  replace hr1 := Kd.C_below hr1 hBn
  replace hr2 := Kd.C_below hr2 hBn
  replace hB := H.below_tt hB hBn
  clear hBn
  try simp only [List.length_nil, Nat.zero_add, Nat.add_zero] at hL6
  go_wp2_with fail
  refine (uni_C (c0 := c0) (c1 := c1) hr0 hc0 hr1 hc1 (by first | omega | (simp only [List.length_nil]; omega))).mono ?_
  rintro e w7 ⟨B7, k7, r7, rfl, hk7, hC7, E7, hL7, hBn⟩
  replace hr0 := Kd.C_below hr0 hBn
  replace hr1 := Kd.C_below hr1 hBn
  replace hr2 := Kd.C_below hr2 hBn
  replace hC6 := Kd.C_below hC6 hBn
  replace hB := H.below_tt hB hBn
  clear hBn
  try simp only [List.length_nil, Nat.zero_add, Nat.add_zero] at hL7
  go_wp2_with fail
  refine (uni_C (c0 := k7) (c1 := c2) hC7 hk7 hr2 hc2 (by first | omega | (simp only [List.length_nil]; omega))).mono ?_
  rintro e w8 ⟨B8, k8, r8, rfl, hk8, hC8, E8, hL8, hBn⟩
  replace hr0 := Kd.C_below hr0 hBn
  replace hr1 := Kd.C_below hr1 hBn
  replace hr2 := Kd.C_below hr2 hBn
  replace hC6 := Kd.C_below hC6 hBn
  replace hB := H.below_tt hB hBn
  clear hBn
  try simp only [List.length_nil, Nat.zero_add, Nat.add_zero] at hL8
  go_wp2_with fail
  have hEq : r6 = r8 := by rw [E6.out, E5.out, E8.out, E7.out]; exact sets_eq fun x => by simp only [H.mem_union, or_assoc]
  have HE := Lib.hid hEq
  clear hEq
  refine (same_C (c0 := k6) (c1 := k8) hC6 hk6 hC8 hk8 HE.out (by omega)).mono ?_
  clear HE
  rintro e wd ⟨rfl, hBn⟩
  replace hr0 := Kd.C_below hr0 hBn
  replace hr1 := Kd.C_below hr1 hBn
  replace hr2 := Kd.C_below hr2 hBn
  replace hB := H.below_tt hB hBn
  clear hBn
  go_wp2_with fail
  refine (dif_C (c0 := c0) (c1 := c1) hr0 hc0 hr1 hc1 (by first | omega | (simp only [List.length_nil]; omega))).mono ?_
  rintro e w9 ⟨B9, k9, r9, rfl, hk9, hC9, E9, hL9, hBn⟩
  replace hr0 := Kd.C_below hr0 hBn
  replace hr1 := Kd.C_below hr1 hBn
  replace hr2 := Kd.C_below hr2 hBn
  replace hB := H.below_tt hB hBn
  clear hBn
  try simp only [List.length_nil, Nat.zero_add, Nat.add_zero] at hL9
  go_wp2_with fail
  refine (int_C (c0 := c0) (c1 := c1) hr0 hc0 hr1 hc1 (by first | omega | (simp only [List.length_nil]; omega))).mono ?_
  rintro e w10 ⟨B10, k10, r10, rfl, hk10, hC10, E10, hL10, hBn⟩
  replace hr0 := Kd.C_below hr0 hBn
  replace hr1 := Kd.C_below hr1 hBn
  replace hr2 := Kd.C_below hr2 hBn
  replace hC9 := Kd.C_below hC9 hBn
  replace hB := H.below_tt hB hBn
  clear hBn
  try simp only [List.length_nil, Nat.zero_add, Nat.add_zero] at hL10
  go_wp2_with fail
  refine (int_C (c0 := k9) (c1 := k10) hC9 hk9 hC10 hk10 (by first | omega | (simp only [List.length_nil]; omega))).mono ?_
  rintro e w11 ⟨B11, k11, r11, rfl, hk11, hC11, E11, hL11, hBn⟩
  replace hr0 := Kd.C_below hr0 hBn
  replace hr1 := Kd.C_below hr1 hBn
  replace hr2 := Kd.C_below hr2 hBn
  replace hC9 := Kd.C_below hC9 hBn
  replace hC10 := Kd.C_below hC10 hBn
  replace hB := H.below_tt hB hBn
  clear hBn
  try simp only [List.length_nil, Nat.zero_add, Nat.add_zero] at hL11
  have hz : r11 = [] := by
    rw [E11.out, E9.out, E10.out]
    refine List.eq_nil_iff_forall_not_mem.2 (fun q hq => ?_)
    rw [H.mem_inter, H.mem_diff, H.mem_inter] at hq
    exact hq.1.2 hq.2.2
  subst hz
  go_wp2_with fail
  refine (uni_C (c0 := k9) (c1 := k10) hC9 hk9 hC10 hk10 (by first | omega | (simp only [List.length_nil]; omega))).mono ?_
  rintro e w12 ⟨B12, k12, r12, rfl, hk12, hC12, E12, hL12, hBn⟩
  replace hr0 := Kd.C_below hr0 hBn
  replace hr1 := Kd.C_below hr1 hBn
  replace hr2 := Kd.C_below hr2 hBn
  replace hC10 := Kd.C_below hC10 hBn
  replace hB := H.below_tt hB hBn
  clear hBn
  try simp only [List.length_nil, Nat.zero_add, Nat.add_zero] at hL12
  go_wp2_with fail
  refine (uni_C (c0 := c0) (c1 := 0) hr0 hc0 (Kd.C_nil _ _) (Nat.le_refl 0) (by first | omega | (simp only [List.length_nil]; omega))).mono ?_
  rintro e w13 ⟨B13, k13, r13, rfl, hk13, hC13, E13, hL13, hBn⟩
  replace hr0 := Kd.C_below hr0 hBn
  replace hr1 := Kd.C_below hr1 hBn
  replace hr2 := Kd.C_below hr2 hBn
  replace hC10 := Kd.C_below hC10 hBn
  replace hC12 := Kd.C_below hC12 hBn
  replace hB := H.below_tt hB hBn
  clear hBn
  try simp only [List.length_nil, Nat.zero_add, Nat.add_zero] at hL13
  go_wp2_with fail
  have hEq : r12 = r13 := by
    rw [E12.out, E9.out, E10.out, E13.out]
    refine sets_eq fun x => ?_
    rw [H.mem_union, H.mem_diff, H.mem_inter, H.mem_union]
    by_cases h1 : x ∈ l0 <;> by_cases h2 : x ∈ l1 <;> simp [h1, h2]
  have HE := Lib.hid hEq
  clear hEq
  refine (same_C (c0 := k12) (c1 := k13) hC12 hk12 hC13 hk13 HE.out (by omega)).mono ?_
  clear HE
  rintro e wd ⟨rfl, hBn⟩
  replace hr0 := Kd.C_below hr0 hBn
  replace hr1 := Kd.C_below hr1 hBn
  replace hr2 := Kd.C_below hr2 hBn
  replace hC10 := Kd.C_below hC10 hBn
  replace hB := H.below_tt hB hBn
  clear hBn
  go_wp2_with fail
  refine (uni_C (c0 := c1) (c1 := c2) hr1 hc1 hr2 hc2 (by first | omega | (simp only [List.length_nil]; omega))).mono ?_
  rintro e w14 ⟨B14, k14, r14, rfl, hk14, hC14, E14, hL14, hBn⟩
  replace hr0 := Kd.C_below hr0 hBn
  replace hr1 := Kd.C_below hr1 hBn
  replace hr2 := Kd.C_below hr2 hBn
  replace hC10 := Kd.C_below hC10 hBn
  replace hB := H.below_tt hB hBn
  clear hBn
  try simp only [List.length_nil, Nat.zero_add, Nat.add_zero] at hL14
  go_wp2_with fail
  refine (int_C (c0 := c0) (c1 := k14) hr0 hc0 hC14 hk14 (by first | omega | (simp only [List.length_nil]; omega))).mono ?_
  rintro e w15 ⟨B15, k15, r15, rfl, hk15, hC15, E15, hL15, hBn⟩
  replace hr0 := Kd.C_below hr0 hBn
  replace hr1 := Kd.C_below hr1 hBn
  replace hr2 := Kd.C_below hr2 hBn
  replace hC10 := Kd.C_below hC10 hBn
  replace hB := H.below_tt hB hBn
  clear hBn
  try simp only [List.length_nil, Nat.zero_add, Nat.add_zero] at hL15
  go_wp2_with fail
  refine (int_C (c0 := c0) (c1 := c1) hr0 hc0 hr1 hc1 (by first | omega | (simp only [List.length_nil]; omega))).mono ?_
  rintro e w16 ⟨B16, k16, r16, rfl, hk16, hC16, E16, hL16, hBn⟩
  replace hr0 := Kd.C_below hr0 hBn
  replace hr1 := Kd.C_below hr1 hBn
  replace hr2 := Kd.C_below hr2 hBn
  replace hC10 := Kd.C_below hC10 hBn
  replace hC15 := Kd.C_below hC15 hBn
  replace hB := H.below_tt hB hBn
  clear hBn
  try simp only [List.length_nil, Nat.zero_add, Nat.add_zero] at hL16
  go_wp2_with fail
  refine (int_C (c0 := c0) (c1 := c2) hr0 hc0 hr2 hc2 (by first | omega | (simp only [List.length_nil]; omega))).mono ?_
  rintro e w17 ⟨B17, k17, r17, rfl, hk17, hC17, E17, hL17, hBn⟩
  replace hr0 := Kd.C_below hr0 hBn
  replace hr1 := Kd.C_below hr1 hBn
  replace hr2 := Kd.C_below hr2 hBn
  replace hC10 := Kd.C_below hC10 hBn
  replace hC15 := Kd.C_below hC15 hBn
  replace hC16 := Kd.C_below hC16 hBn
  replace hB := H.below_tt hB hBn
  clear hBn
  try simp only [List.length_nil, Nat.zero_add, Nat.add_zero] at hL17
  go_wp2_with fail
  refine (uni_C (c0 := k16) (c1 := k17) hC16 hk16 hC17 hk17 (by first | omega | (simp only [List.length_nil]; omega))).mono ?_
  rintro e w18 ⟨B18, k18, r18, rfl, hk18, hC18, E18, hL18, hBn⟩
  replace hr0 := Kd.C_below hr0 hBn
  replace hr1 := Kd.C_below hr1 hBn
  replace hr2 := Kd.C_below hr2 hBn
  replace hC10 := Kd.C_below hC10 hBn
  replace hC15 := Kd.C_below hC15 hBn
  replace hB := H.below_tt hB hBn
  clear hBn
  try simp only [List.length_nil, Nat.zero_add, Nat.add_zero] at hL18
  go_wp2_with fail
  have hEq : r15 = r18 := by
    rw [E15.out, E14.out, E18.out, E16.out, E17.out]
    refine sets_eq fun x => ?_
    simp only [H.mem_union, H.mem_inter]
    by_cases h1 : x ∈ l0 <;> by_cases h2 : x ∈ l1 <;> simp [h1, h2]
  have HE := Lib.hid hEq
  clear hEq
  refine (same_C (c0 := k15) (c1 := k18) hC15 hk15 hC18 hk18 HE.out (by omega)).mono ?_
  clear HE
  rintro e wd ⟨rfl, hBn⟩
  replace hr0 := Kd.C_below hr0 hBn
  replace hr1 := Kd.C_below hr1 hBn
  replace hr2 := Kd.C_below hr2 hBn
  replace hC10 := Kd.C_below hC10 hBn
  replace hB := H.below_tt hB hBn
  clear hBn
  go_wp2_with fail
  refine (uni_C (c0 := c0) (c1 := c1) hr0 hc0 hr1 hc1 (by first | omega | (simp only [List.length_nil]; omega))).mono ?_
  rintro e w19 ⟨B19, k19, r19, rfl, hk19, hC19, E19, hL19, hBn⟩
  replace hr0 := Kd.C_below hr0 hBn
  replace hr1 := Kd.C_below hr1 hBn
  replace hC10 := Kd.C_below hC10 hBn
  replace hB := H.below_tt hB hBn
  clear hBn
  try simp only [List.length_nil, Nat.zero_add, Nat.add_zero] at hL19
  go_wp2_with fail
  refine (uni_C (c0 := c0) (c1 := 0) hr0 hc0 (Kd.C_nil _ _) (Nat.le_refl 0) (by first | omega | (simp only [List.length_nil]; omega))).mono ?_
  rintro e w20 ⟨B20, k20, r20, rfl, hk20, hC20, E20, hL20, hBn⟩
  replace hr0 := Kd.C_below hr0 hBn
  replace hr1 := Kd.C_below hr1 hBn
  replace hB := H.below_tt hB hBn
  clear hBn
  try simp only [List.length_nil, Nat.zero_add, Nat.add_zero] at hL20
  go_wp2_with fail
  refine (uni_C (c0 := 0) (c1 := c1) (Kd.C_nil _ _) (Nat.le_refl 0) hr1 hc1 (by first | omega | (simp only [List.length_nil]; omega))).mono ?_
  rintro e w21 ⟨B21, k21, r21, rfl, hk21, hC21, E21, hL21, hBn⟩
  replace hB := H.below_tt hB hBn
  clear hBn
  try simp only [List.length_nil, Nat.zero_add, Nat.add_zero] at hL21
  have hn : r19.length + r10.length = r20.length + r21.length := by rw [E19.out, E10.out, E20.out, E21.out]; exact counts l0 l1
  have hb1 : (((r19.length : Int) + (r10.length : Int)) == ((r20.length : Int) + (r21.length : Int))) = true := beq_iff_eq.2 (by omega)
  clear hn
  go_wp2_with fail
  refine (lodestarlaw08_sure.calls true _ rfl).mono ?_
  rintro e wz ⟨rfl, hBn⟩
  replace hB := H.below_tt hB hBn
  clear hBn
  go_wp2_with fail
  go_ret
  exact ⟨rfl, hB⟩
theorem lodestarlaw08_IdsRulesU.walk (a0 : Option Addr) (len0 cap0 : Nat) (z0 : List Int) (a1 : Option Addr) (len1 cap1 : Nat) (z1 : List Int) (a2 : Option Addr) (len2 cap2 : Nat) (z2 : List Int) (w : World) (w0 : (a0 = none ∧ len0 = 0 ∧ cap0 = 0 ∧ z0 = []) ∨ ∃ x, a0 = some x ∧ len0 ≤ cap0 ∧ cap0 ≤ maxLen ∧ z0.length = cap0 ∧ (∀ i, i < z0.length → w.cell? (x.add i) = some (.int .i64 (z0.getD i 0))) ∧ ∀ n ∈ z0, (Lit.int .i64 n).wf = true) (y0 : len0 * 8 ≤ 140737488351232) (w1 : (a1 = none ∧ len1 = 0 ∧ cap1 = 0 ∧ z1 = []) ∨ ∃ x, a1 = some x ∧ len1 ≤ cap1 ∧ cap1 ≤ maxLen ∧ z1.length = cap1 ∧ (∀ i, i < z1.length → w.cell? (x.add i) = some (.int .i64 (z1.getD i 0))) ∧ ∀ n ∈ z1, (Lit.int .i64 n).wf = true) (y1 : len1 * 8 ≤ 140737488351232) (w2 : (a2 = none ∧ len2 = 0 ∧ cap2 = 0 ∧ z2 = []) ∨ ∃ x, a2 = some x ∧ len2 ≤ cap2 ∧ cap2 ≤ maxLen ∧ z2.length = cap2 ∧ (∀ i, i < z2.length → w.cell? (x.add i) = some (.int .i64 (z2.getD i 0))) ∧ ∀ n ∈ z2, (Lit.int .i64 n).wf = true) (y2 : len2 * 8 ≤ 140737488351232) (u0 : len0 ≤ 1048576) (u1 : len1 ≤ 1048576) (u2 : len2 ≤ 1048576) :
    Calls Try.prog 8 #[.slice a0 len0 cap0, .slice a1 len1 cap1, .slice a2 len2 cap2] w fun e w' => e = .returned (.bool true) ∧ Below w.heap.size w w' := by
  obtain ⟨l0, rfl, hr0, hm0, hw0, hc0⟩ := ReadsInt.ofRowC w0
  obtain ⟨l1, rfl, hr1, hm1, hw1, hc1⟩ := ReadsInt.ofRowC w1
  obtain ⟨l2, rfl, hr2, hm2, hw2, hc2⟩ := ReadsInt.ofRowC w2
  exact rules_calls _ _ l0 _ _ l1 _ _ l2 w (Kd.C_of_reads (d := (0 : Int)) (h1 := fun _ => rfl) hr0) hc0 (Kd.C_of_reads (d := (0 : Int)) (h1 := fun _ => rfl) hr1) hc1 (Kd.C_of_reads (d := (0 : Int)) (h1 := fun _ => rfl) hr2) hc2 u0 u1 u2
end Go.Proofs.Ytfhnjdjkchbolaa.PAll

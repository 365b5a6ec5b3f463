-- Printed by hp.py (a program of this repo) with the kit's print: whole numbers, lists; the parts marked HAND are typed by hand.
import Derived.Test.YtfhnjdjkchbolaaPAllx0
import Derived.Test.YtfhnjdjkchbolaaPAllx1
import Derived.Test.YtfhnjdjkchbolaaPAllx2
import Derived.Test.YtfhnjdjkchbolaaPAllx3
import Derived.Test.YtfhnjdjkchbolaaPAllx5
import Derived.Test.YtfhnjdjkchbolaaPAllx7
import Derived.Test.YtfhnjdjkchbolaaPAllx8
import Derived.Test.YtfhnjdjkchbolaaPAllx9
import Derived.Test.YtfhnjdjkchbolaaPAllx10
import Derived.Test.YtfhnjdjkchbolaaHPure
namespace Go.Proofs.Ytfhnjdjkchbolaa.PAll
open Go.RowKit Go.Proofs.YtfhnjdjkchbolaaW.PrintWords Go.Proofs.YtfhnjdjkchbolaaW.PrintLast Go.Proofs.YtfhnjdjkchbolaaW.PrintMore
attribute [local go_sem] max2_int min2_int max_two min_two max_three min_three max_four min_four   -- for this text's walks alone
set_option linter.unusedVariables false
set_option linter.unusedSimpArgs false

-- HAND: typed by hand
/-! ### lodestarlaw08_sure: function 17 -/
/-- What must come whatever the input is. -/
def lodestarlaw08_sure.f : Option (Bool) := some true
theorem lodestarlaw08_sure.of1 : ids_Of.f 20 [3, 1, 3] = some ([1, 3], 0) := by
  have e : ids_set.f [3, 1, 3] = some [1, 3] := by
    unfold ids_set.f
    rw [if_pos (by decide), H.setL_eq (k := [1, 3]) (by decide) (fun x => by simp; omega)]
  unfold ids_Of.f
  rw [e]
  decide +kernel
theorem lodestarlaw08_sure.of2 : ids_Of.f 20 [0] = some ([], 80) := by
  have e : ids_set.f [0] = some [0] := by
    unfold ids_set.f
    rw [if_pos (by decide), H.setL_eq (k := [0]) (by decide) (fun x => by simp)]
  unfold ids_Of.f
  rw [e]
  decide +kernel
theorem lodestarlaw08_sure.enc : ids_Encode.f 20 [1, 300] = some (⟨#[2, 0, 0, 0, 1, 171, 2]⟩, 0) := by
  unfold ids_Encode.f
  have e1 : ids_Check.f 20 [1, 300] = some 0 := by decide +kernel
  have e2 : num_Fix.f 20 (([1, 300] : List Int).length : Int) 4 = some (⟨#[2, 0, 0, 0]⟩, 0) := by decide +kernel
  rw [e1]
  simp only [Option.bind_some, if_true]
  rw [if_pos (by decide), if_pos (by decide), e2]
  simp only [Option.bind_some, if_true]
  rw [if_pos (by decide)]
  have e3 : H.encL 0 [1, 300] = [1, 171, 2] := by
    simp only [H.encL]
    rw [show ((1 : Int) - 0).toNat = 1 from rfl, show ((300 : Int) - 1).toNat = 299 from rfl, H.enc7_small (by decide), H.enc7_great (by decide), H.enc7_small (by decide)]
    rfl
  rw [e3]
  rfl
theorem lodestarlaw08_sure.dec : ids_Decode.f 20 ⟨#[2, 0, 0, 0, 1, 171, 2]⟩ = some ([1, 300], 0) := by decide +kernel
theorem lodestarlaw08_sure.dec2 : ids_Decode.f 20 ⟨#[1, 0, 0, 0, 128, 0]⟩ = some ([], 80) := by decide +kernel
theorem lodestarlaw08_sure.uni : ids_Union.f [2, 1] [2, 5] = some [1, 2, 5] := by
  unfold ids_Union.f ids_some.f
  rw [if_pos (by decide), H.rising_ext (b := [1, 2, 5]) (H.someL_rising _ _ _) (by decide) (fun x => by rw [H.mem_union]; simp; omega)]
  rfl
theorem lodestarlaw08_sure.int : ids_Inter.f [2, 1] [2, 5] = some [2] := by
  unfold ids_Inter.f ids_some.f
  rw [if_pos (by decide), H.rising_ext (b := [2]) (H.someL_rising _ _ _) (by decide) (fun x => by rw [H.mem_inter]; simp; omega)]
  rfl
theorem lodestarlaw08_sure.dif : ids_Diff.f [2, 1] [2, 5] = some [1] := by
  unfold ids_Diff.f ids_some.f
  rw [if_pos (by decide), H.rising_ext (b := [1]) (H.someL_rising _ _ _) (by decide) (fun x => by rw [H.mem_diff]; simp; omega)]
  rfl
set_option maxRecDepth 100000 in
set_option maxHeartbeats 1000000 in
theorem lodestarlaw08_sure.calls (r : Bool) (w : World) (h : lodestarlaw08_sure.f = some r) :
    Calls Try.prog 17 #[] w fun e w' => e = .returned (.bool r) ∧ Below w.heap.size w w' := by
  obtain rfl : true = r := Option.some.inj h
  clear h
  go_enter Try.func17, Try.ntmps17
  go_wp2_with fail
  refine (ids_Of.calls 20 _ _ [3, 1, 3] _ _ _ (H.C_new _ [3, 1, 3] (by decide)) (by decide) lodestarlaw08_sure.of1).mono ?_
  rintro e w1 ⟨v1, rfl, hR1, hB1⟩
  replace hB1 := H.below_a1 hB1
  obtain ⟨A1, c1, rfl, hl1, hC1⟩ := Kd.R_reads hR1
  clear hR1
  go_wp2_with fail
  refine (ids_Of.calls 20 _ _ [0] _ _ _ (H.C_new _ [0] (by decide)) (by decide) lodestarlaw08_sure.of2).mono ?_
  rintro e w2 ⟨v2, rfl, _, hB2⟩
  replace hB2 := H.below_a1 hB2
  replace hC1 := Kd.C_below hC1 hB2
  replace hB2 := H.below_tt hB1 hB2
  clear hB1
  go_wp2_with fail
  refine (ids_Encode.calls 20 _ _ [1, 300] _ _ _ (H.C_new _ [1, 300] (by decide)) (by decide) lodestarlaw08_sure.enc).mono ?_
  rintro e w3 ⟨rfl, hB3⟩
  replace hB3 := H.below_a1 hB3
  replace hC1 := Kd.C_below hC1 hB3
  replace hB3 := H.below_tt hB2 hB3
  clear hB2
  go_wp2_with fail
  refine (ids_Decode.calls 20 _ _ _ _ lodestarlaw08_sure.dec).mono ?_
  rintro e w4 ⟨v4, rfl, hR4, hB4⟩
  obtain ⟨A4, c4, rfl, hl4, hC4⟩ := Kd.R_reads hR4
  clear hR4
  replace hC1 := Kd.C_below hC1 hB4
  replace hB4 := H.below_tt hB3 hB4
  clear hB3
  go_wp2_with fail
  refine (ids_Decode.calls 20 _ _ _ _ lodestarlaw08_sure.dec2).mono ?_
  rintro e w5 ⟨v5, rfl, _, hB5⟩
  replace hC1 := Kd.C_below hC1 hB5
  replace hC4 := Kd.C_below hC4 hB5
  replace hB5 := H.below_tt hB4 hB5
  clear hB4
  go_wp2_with fail
  refine (lodestarlaw08_same.calls 20 _ _ [1, 3] _ _ [1, 3] true _ (H.C_al hC1 _) hl1 (H.C_new _ [1, 3] (by decide)) (by decide) (by decide +kernel)).mono ?_
  rintro e w6 ⟨rfl, hd⟩
  have hB6 := H.below_a1 hd.below
  clear hd
  replace hC4 := Kd.C_below hC4 hB6
  replace hB6 := H.below_tt hB5 hB6
  clear hB5 hC1
  go_wp2_with fail
  refine (lodestarlaw08_same.calls 20 _ _ [1, 300] _ _ [1, 300] true _ (H.C_al hC4 _) hl4 (H.C_new _ [1, 300] (by decide)) (by decide) (by decide +kernel)).mono ?_
  rintro e w7 ⟨rfl, hd⟩
  have hB7 := H.below_a1 hd.below
  clear hd
  replace hB7 := H.below_tt hB6 hB7
  clear hB6 hC4
  go_wp2_with fail
  refine (ids_Union.calls _ _ [2, 1] _ _ [2, 5] _ _ (H.C_new1 _ [2, 1] _ (by decide)) (by decide) (H.C_new2 _ [2, 5] _ (by decide)) (by decide) lodestarlaw08_sure.uni).mono ?_
  rintro e w8 ⟨v8, rfl, hR8, hB8⟩
  obtain ⟨A8, c8, rfl, hl8, hC8⟩ := Kd.R_reads hR8
  replace hB8 := H.below_tt hB7 (H.below_a2 hB8)
  clear hR8 hB7
  go_wp2_with fail
  refine (lodestarlaw08_same.calls 20 _ _ [1, 2, 5] _ _ [1, 2, 5] true _ (H.C_al hC8 _) hl8 (H.C_new _ [1, 2, 5] (by decide)) (by decide) (by decide +kernel)).mono ?_
  rintro e w9 ⟨rfl, hd⟩
  have hB9 := H.below_a1 hd.below
  clear hd
  replace hB9 := H.below_tt hB8 hB9
  clear hB8 hC8
  go_wp2_with fail
  refine (ids_Inter.calls _ _ [2, 1] _ _ [2, 5] _ _ (H.C_new1 _ [2, 1] _ (by decide)) (by decide) (H.C_new2 _ [2, 5] _ (by decide)) (by decide) lodestarlaw08_sure.int).mono ?_
  rintro e w10 ⟨v10, rfl, hR10, hB10⟩
  obtain ⟨A10, c10, rfl, hl10, hC10⟩ := Kd.R_reads hR10
  replace hB10 := H.below_tt hB9 (H.below_a2 hB10)
  clear hR10 hB9
  go_wp2_with fail
  refine (lodestarlaw08_same.calls 20 _ _ [2] _ _ [2] true _ (H.C_al hC10 _) hl10 (H.C_new _ [2] (by decide)) (by decide) (by decide +kernel)).mono ?_
  rintro e w11 ⟨rfl, hd⟩
  have hB11 := H.below_a1 hd.below
  clear hd
  replace hB11 := H.below_tt hB10 hB11
  clear hB10 hC10
  go_wp2_with fail
  refine (ids_Diff.calls _ _ [2, 1] _ _ [2, 5] _ _ (H.C_new1 _ [2, 1] _ (by decide)) (by decide) (H.C_new2 _ [2, 5] _ (by decide)) (by decide) lodestarlaw08_sure.dif).mono ?_
  rintro e w12 ⟨v12, rfl, hR12, hB12⟩
  obtain ⟨A12, c12, rfl, hl12, hC12⟩ := Kd.R_reads hR12
  replace hB12 := H.below_tt hB11 (H.below_a2 hB12)
  clear hR12 hB11
  go_wp2_with fail
  refine (lodestarlaw08_same.calls 20 _ _ [1] _ _ [1] true _ (H.C_al hC12 _) hl12 (H.C_new _ [1] (by decide)) (by decide) (by decide +kernel)).mono ?_
  rintro e w13 ⟨rfl, hd⟩
  have hB13 := H.below_a1 hd.below
  clear hd
  replace hB13 := H.below_tt hB12 hB13
  clear hB12 hC12
  go_wp2_with fail
  refine (ids_Has.calls 20 _ _ [2] 2 true _ (H.C_new _ [2] (by decide)) (by decide) (by decide +kernel)).mono ?_
  rintro e w14 ⟨rfl, hd⟩
  have hB14 := H.below_tt hB13 (H.below_a1 hd.below)
  clear hd hB13
  go_wp2_with fail
  refine (ids_Check.calls 20 _ _ [2, 1] 80 _ (H.C_new _ [2, 1] (by decide)) (by decide) (by decide +kernel)).mono ?_
  rintro e w15 ⟨rfl, hd⟩
  have hB15 := H.below_tt hB14 (H.below_a1 hd.below)
  clear hd hB14
  go_wp2_with fail
  go_ret
  exact ⟨rfl, hB15⟩

end Go.Proofs.Ytfhnjdjkchbolaa.PAll

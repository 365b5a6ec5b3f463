-- Printed by hp.py (a program of this repo) with the kit's print: whole numbers, lists; the parts marked HAND are typed by hand.
import Derived.Test.YtihanpdfnpgnfaaPAllx0
import Derived.Test.YtihanpdfnpgnfaaPAllx10
import Derived.Test.YtihanpdfnpgnfaaPAllx11
namespace Go.Proofs.Ytihanpdfnpgnfaa.PAll
open Go.RowKit Go.Proofs.YtihanpdfnpgnfaaW.PrintWords Go.Proofs.YtihanpdfnpgnfaaW.PrintLast Go.Proofs.YtihanpdfnpgnfaaW.PrintMore
attribute [local go_sem] max2_int min2_int max_two min_two max_three min_three max_four min_four   -- for this text's walks alone
set_option linter.unusedVariables false
set_option linter.unusedSimpArgs false

/-! ### lodestarlaw15_StatsJoins: function 5 -/
mutual
def lodestarlaw15_StatsJoins.j0 : Nat → Int → List Int → Int → Int → Bool → Option (Bool)
  | 0, _, _, _, _, _ => none
  | k + 1, x0, x1, x5, x6, x46 => if x46 = true then (some false) else (lodestarlaw15_StatsJoins.l0 k x0 x1 x5 x6 0)
def lodestarlaw15_StatsJoins.l0 : Nat → Int → List Int → Int → Int → Int → Option (Bool)
  | 0, _, _, _, _, _ => none
  | k + 1, x0, x1, x5, x6, x7 => if x7 < (x1.length : Int) then (if 0 ≤ x7 then (if x5 > (mx 0 (mn (rd x1 x7) (mx x0 0))) then (some false) else (if x6 < (mx 0 (mn (rd x1 x7) (mx x0 0))) then (some false) else (lodestarlaw15_StatsJoins.l0 k x0 x1 x5 x6 (wrap64 (x7 + 1))))) else (none)) else ((lodestarlaw15_awake.f k).bind fun t194 => (some t194))
end
def lodestarlaw15_StatsJoins.f (k : Nat) (a0 : Int) (l1 : List Int) : Option (Bool) := (stats_And.f k a0 l1).bind fun t189 => ((stats_Or.f k a0 l1).bind fun t190 => ((lodestarref15_And.f k a0 l1).bind fun t191 => (if t189 = t191 then ((lodestarref15_Or.f k a0 l1).bind fun t192 => (if t190 = t192 then (if t189 < 0 then (lodestarlaw15_StatsJoins.j0 k a0 l1 t189 t190 true) else (if t190 < 0 then (lodestarlaw15_StatsJoins.j0 k a0 l1 t189 t190 true) else (if t189 > (mx a0 0) then (lodestarlaw15_StatsJoins.j0 k a0 l1 t189 t190 true) else (lodestarlaw15_StatsJoins.j0 k a0 l1 t189 t190 (decide (t190 > (mx a0 0))))))) else (lodestarlaw15_StatsJoins.j0 k a0 l1 t189 t190 true))) else (lodestarlaw15_StatsJoins.j0 k a0 l1 t189 t190 true))))
theorem lodestarlaw15_StatsJoins.mono_l : ∀ k, (∀ y0 y1 y2 y3 y4, LeO (lodestarlaw15_StatsJoins.j0 k y0 y1 y2 y3 y4) (lodestarlaw15_StatsJoins.j0 (k + 1) y0 y1 y2 y3 y4)) ∧ (∀ y0 y1 y2 y3 y4, LeO (lodestarlaw15_StatsJoins.l0 k y0 y1 y2 y3 y4) (lodestarlaw15_StatsJoins.l0 (k + 1) y0 y1 y2 y3 y4))
  | 0 => ⟨fun _ _ _ _ _ r h => by simp [lodestarlaw15_StatsJoins.j0] at h, fun _ _ _ _ _ r h => by simp [lodestarlaw15_StatsJoins.l0] at h⟩
  | k + 1 => by
    obtain ⟨ih0, ih1⟩ := lodestarlaw15_StatsJoins.mono_l k
    refine ⟨?_, ?_⟩
    · intro y0 y1 y2 y3 y4
      unfold lodestarlaw15_StatsJoins.j0
      repeat' first
      | (with_reducible exact ih0 _ _ _ _ _)
      | (with_reducible exact ih1 _ _ _ _ _)
      | (with_reducible exact lodestarlaw15_awake.mono _)
      | (with_reducible exact lodestarref15_And.mono _ _ _)
      | (with_reducible exact lodestarref15_Or.mono _ _ _)
      | (with_reducible exact stats_And.mono _ _ _)
      | (with_reducible exact stats_Or.mono _ _ _)
      | (with_reducible exact LeO.refl _)
      | (with_reducible exact LeO.none _)
      | (with_reducible refine LeO.ite ?_ ?_)
      | (with_reducible refine LeO.bind ?_ (fun _ => ?_))
      | exact ih0 _ _ _ _ _
      | exact ih1 _ _ _ _ _
      | exact lodestarlaw15_awake.mono _
      | exact lodestarref15_And.mono _ _ _
      | exact lodestarref15_Or.mono _ _ _
      | exact stats_And.mono _ _ _
      | exact stats_Or.mono _ _ _
      | exact LeO.none _
      | refine LeO.ite ?_ ?_
      | refine LeO.bind ?_ (fun _ => ?_)
    · intro y0 y1 y2 y3 y4
      unfold lodestarlaw15_StatsJoins.l0
      repeat' first
      | (with_reducible exact ih0 _ _ _ _ _)
      | (with_reducible exact ih1 _ _ _ _ _)
      | (with_reducible exact lodestarlaw15_awake.mono _)
      | (with_reducible exact lodestarref15_And.mono _ _ _)
      | (with_reducible exact lodestarref15_Or.mono _ _ _)
      | (with_reducible exact stats_And.mono _ _ _)
      | (with_reducible exact stats_Or.mono _ _ _)
      | (with_reducible exact LeO.refl _)
      | (with_reducible exact LeO.none _)
      | (with_reducible refine LeO.ite ?_ ?_)
      | (with_reducible refine LeO.bind ?_ (fun _ => ?_))
      | exact ih0 _ _ _ _ _
      | exact ih1 _ _ _ _ _
      | exact lodestarlaw15_awake.mono _
      | exact lodestarref15_And.mono _ _ _
      | exact lodestarref15_Or.mono _ _ _
      | exact stats_And.mono _ _ _
      | exact stats_Or.mono _ _ _
      | exact LeO.none _
      | refine LeO.ite ?_ ?_
      | refine LeO.bind ?_ (fun _ => ?_)
theorem lodestarlaw15_StatsJoins.mono : ∀ a0 a1 k, LeO (lodestarlaw15_StatsJoins.f k a0 a1) (lodestarlaw15_StatsJoins.f (k + 1) a0 a1) := by
  intro a0 a1 k
  obtain ⟨ih0, ih1⟩ := lodestarlaw15_StatsJoins.mono_l k
  unfold lodestarlaw15_StatsJoins.f
  repeat' first
      | (with_reducible exact ih0 _ _ _ _ _)
      | (with_reducible exact ih1 _ _ _ _ _)
      | (with_reducible exact lodestarlaw15_awake.mono _)
      | (with_reducible exact lodestarref15_And.mono _ _ _)
      | (with_reducible exact lodestarref15_Or.mono _ _ _)
      | (with_reducible exact stats_And.mono _ _ _)
      | (with_reducible exact stats_Or.mono _ _ _)
      | (with_reducible exact LeO.refl _)
      | (with_reducible exact LeO.none _)
      | (with_reducible refine LeO.ite ?_ ?_)
      | (with_reducible refine LeO.bind ?_ (fun _ => ?_))
      | exact ih0 _ _ _ _ _
      | exact ih1 _ _ _ _ _
      | exact lodestarlaw15_awake.mono _
      | exact lodestarref15_And.mono _ _ _
      | exact lodestarref15_Or.mono _ _ _
      | exact stats_And.mono _ _ _
      | exact stats_Or.mono _ _ _
      | exact LeO.none _
      | refine LeO.ite ?_ ?_
      | refine LeO.bind ?_ (fun _ => ?_)
set_option maxHeartbeats 8000000 in
set_option maxRecDepth 100000 in
theorem lodestarlaw15_StatsJoins.calls (k : Nat) (a0 : Int) (A1 : Option Addr) (c1 : Nat) (l1 : List Int) (r : Bool) (w : World) (hr1 : Kd.C (Kd.int .i64) w A1 l1.length l1) (hc1 : l1.length ≤ c1) (h : lodestarlaw15_StatsJoins.f k a0 l1 = some r) :
    Calls Try.prog 5 #[.int .i64 a0, .slice A1 l1.length c1] w fun e w' => e = .returned (.bool r) ∧ Below w.heap.size w w' := by
  have HR1 := Aside0.mk hr1
  have HC1 := Aside0.mk hc1
  clear hr1 hc1
  have HB := Aside0.mk (Below.refl w.heap.size w)
  have H : ((stats_And.f k a0 l1).bind fun t189 => ((stats_Or.f k a0 l1).bind fun t190 => ((lodestarref15_And.f k a0 l1).bind fun t191 => (if t189 = t191 then ((lodestarref15_Or.f k a0 l1).bind fun t192 => (if t190 = t192 then (if t189 < 0 then (lodestarlaw15_StatsJoins.j0 k a0 l1 t189 t190 true) else (if t190 < 0 then (lodestarlaw15_StatsJoins.j0 k a0 l1 t189 t190 true) else (if t189 > (mx a0 0) then (lodestarlaw15_StatsJoins.j0 k a0 l1 t189 t190 true) else (lodestarlaw15_StatsJoins.j0 k a0 l1 t189 t190 (decide (t190 > (mx a0 0))))))) else (lodestarlaw15_StatsJoins.j0 k a0 l1 t189 t190 true))) else (lodestarlaw15_StatsJoins.j0 k a0 l1 t189 t190 true))))) = some r := h
  clear h
  replace H := Option.bind_eq_some_iff.mp H
  obtain ⟨t189, A30, H⟩ := H
  replace H : ((stats_Or.f k a0 l1).bind fun t190 => ((lodestarref15_And.f k a0 l1).bind fun t191 => (if t189 = t191 then ((lodestarref15_Or.f k a0 l1).bind fun t192 => (if t190 = t192 then (if t189 < 0 then (lodestarlaw15_StatsJoins.j0 k a0 l1 t189 t190 true) else (if t190 < 0 then (lodestarlaw15_StatsJoins.j0 k a0 l1 t189 t190 true) else (if t189 > (mx a0 0) then (lodestarlaw15_StatsJoins.j0 k a0 l1 t189 t190 true) else (lodestarlaw15_StatsJoins.j0 k a0 l1 t189 t190 (decide (t190 > (mx a0 0))))))) else (lodestarlaw15_StatsJoins.j0 k a0 l1 t189 t190 true))) else (lodestarlaw15_StatsJoins.j0 k a0 l1 t189 t190 true)))) = some r := H
  have A3 := Aside0.mk A30
  clear A30
  replace H := Option.bind_eq_some_iff.mp H
  obtain ⟨t190, A40, H⟩ := H
  replace H : ((lodestarref15_And.f k a0 l1).bind fun t191 => (if t189 = t191 then ((lodestarref15_Or.f k a0 l1).bind fun t192 => (if t190 = t192 then (if t189 < 0 then (lodestarlaw15_StatsJoins.j0 k a0 l1 t189 t190 true) else (if t190 < 0 then (lodestarlaw15_StatsJoins.j0 k a0 l1 t189 t190 true) else (if t189 > (mx a0 0) then (lodestarlaw15_StatsJoins.j0 k a0 l1 t189 t190 true) else (lodestarlaw15_StatsJoins.j0 k a0 l1 t189 t190 (decide (t190 > (mx a0 0))))))) else (lodestarlaw15_StatsJoins.j0 k a0 l1 t189 t190 true))) else (lodestarlaw15_StatsJoins.j0 k a0 l1 t189 t190 true))) = some r := H
  have A4 := Aside0.mk A40
  clear A40
  have HC5 := Aside0.mk H
  clear H
  go_enter Try.func5, Try.ntmps5
  go_upto_region 2 with (first | ((with_reducible refine gate_callee (f := 12) rfl ?_); refine goesL_ (some 11) rfl rfl Try.func12 (by kernel_rfl) rfl #[.int .i64 a0, .slice A1 l1.length c1] rfl (by (try simp only [List.map_toArray, List.map_cons, List.map_nil]); first | done | rfl | (simp only [List.length_drop, List.length_take]; rfl)) ?_; (with_reducible refine (stats_And.calls k a0 _ _ l1 t189 _ ?side1 ?side2 A3.out).mono ?_); (case side1 => repeat (first | exact HR1.out | (with_reducible refine Kd.C_alloc ?_ _) | (with_reducible refine Kd.C_drewN ?_ _) | (with_reducible refine Kd.C_drew ?_))); (case side2 => exact HC1.out); rintro e w6 ⟨rfl, hb⟩; refine ⟨_, rfl, ?_⟩; have n0_ := Aside0.mk (below_step (by repeat (first | (with_reducible first | exact HB.out | apply below_alloc | apply pw_below_drewN | apply below_drew1) | exact HB.out)) hb); clear HB; have HB := n0_; clear n0_; (try clear hb); (try clear hb2); (try clear hk); (try clear hi)) | ((with_reducible refine gate_callee (f := 13) rfl ?_); refine goesL_ (some 14) rfl rfl Try.func13 (by kernel_rfl) rfl #[.int .i64 a0, .slice A1 l1.length c1] rfl (by (try simp only [List.map_toArray, List.map_cons, List.map_nil]); first | done | rfl | (simp only [List.length_drop, List.length_take]; rfl)) ?_; (with_reducible refine (stats_Or.calls k a0 _ _ l1 t190 _ ?side1 ?side2 A4.out).mono ?_); (case side1 => repeat (first | exact (Kd.C_below HR1.out HB.out) | (with_reducible refine Kd.C_alloc ?_ _) | (with_reducible refine Kd.C_drewN ?_ _) | (with_reducible refine Kd.C_drew ?_))); (case side2 => exact HC1.out); rintro e w7 ⟨rfl, hb⟩; refine ⟨_, rfl, ?_⟩; have n0_ := Aside0.mk (below_step (by repeat (first | (with_reducible first | exact HB.out | apply below_alloc | apply pw_below_drewN | apply below_drew1) | exact HB.out)) hb); clear HB; have HB := n0_; clear n0_; (try clear hb); (try clear hb2); (try clear hk); (try clear hi)))
  (try simp only [Act.put, List.setIfInBounds_toArray, List.set_cons_zero, List.set_cons_succ])
  go_cut [46] (fun v46 wc => ∃ (kq : Nat) (x46_4 : Bool), v46 = .bool x46_4 ∧ Aside0 (lodestarlaw15_StatsJoins.j0 kq a0 l1 t189 t190 x46_4 = some r) ∧ Aside0 (kq ≤ k) ∧ Aside0 (Below w.heap.size w wc))
  case first =>
    have H := HC5.out
    clear HC5
    replace H := Option.bind_eq_some_iff.mp H
    obtain ⟨t191, A80, H⟩ := H
    replace H : (if t189 = t191 then ((lodestarref15_Or.f k a0 l1).bind fun t192 => (if t190 = t192 then (if t189 < 0 then (lodestarlaw15_StatsJoins.j0 k a0 l1 t189 t190 true) else (if t190 < 0 then (lodestarlaw15_StatsJoins.j0 k a0 l1 t189 t190 true) else (if t189 > (mx a0 0) then (lodestarlaw15_StatsJoins.j0 k a0 l1 t189 t190 true) else (lodestarlaw15_StatsJoins.j0 k a0 l1 t189 t190 (decide (t190 > (mx a0 0))))))) else (lodestarlaw15_StatsJoins.j0 k a0 l1 t189 t190 true))) else (lodestarlaw15_StatsJoins.j0 k a0 l1 t189 t190 true)) = some r := H
    have A8 := Aside0.mk A80
    clear A80
    by_cases c9 : t189 = t191
    · rw [if_pos c9] at H
      have c9b0 : (t189 == t191) = true := beq_iff_eq.mpr c9
      have c9b1 : (t189 != t191) = false := bne_eq_false_iff_eq.mpr c9
      clear c9
      (first | rw [c9b0] | (simp only [i64_w, i32_w]; rw [c9b0]) | skip)
      replace H := Option.bind_eq_some_iff.mp H
      obtain ⟨t192, A100, H⟩ := H
      replace H : (if t190 = t192 then (if t189 < 0 then (lodestarlaw15_StatsJoins.j0 k a0 l1 t189 t190 true) else (if t190 < 0 then (lodestarlaw15_StatsJoins.j0 k a0 l1 t189 t190 true) else (if t189 > (mx a0 0) then (lodestarlaw15_StatsJoins.j0 k a0 l1 t189 t190 true) else (lodestarlaw15_StatsJoins.j0 k a0 l1 t189 t190 (decide (t190 > (mx a0 0))))))) else (lodestarlaw15_StatsJoins.j0 k a0 l1 t189 t190 true)) = some r := H
      have A10 := Aside0.mk A100
      clear A100
      by_cases c11 : t190 = t192
      · rw [if_pos c11] at H
        have c11b0 : (t190 == t192) = true := beq_iff_eq.mpr c11
        have c11b1 : (t190 != t192) = false := bne_eq_false_iff_eq.mpr c11
        clear c11
        by_cases c12 : t189 < 0
        · rw [if_pos c12] at H
          have c12b0 : decide (t189 < 0) = true := decide_eq_true c12
          clear c12
          have H' := Aside0.mk H
          clear H
          go_wp2_with (first | ((with_reducible refine gate_callee (f := 14) rfl ?_); refine goesL_ (some 18) rfl rfl Try.func14 (by kernel_rfl) rfl #[.int .i64 a0, .slice A1 l1.length c1] rfl (by (try simp only [List.map_toArray, List.map_cons, List.map_nil]); first | done | rfl | (simp only [List.length_drop, List.length_take]; rfl)) ?_; (with_reducible refine (lodestarref15_And.calls k a0 _ _ l1 t191 _ ?side1 ?side2 A8.out).mono ?_); (case side1 => repeat (first | exact (Kd.C_below HR1.out HB.out) | (with_reducible refine Kd.C_alloc ?_ _) | (with_reducible refine Kd.C_drewN ?_ _) | (with_reducible refine Kd.C_drew ?_))); (case side2 => exact HC1.out); rintro e w13 ⟨rfl, hb⟩; refine ⟨_, rfl, ?_⟩; have n0_ := Aside0.mk (below_step (by repeat (first | (with_reducible first | exact HB.out | apply below_alloc | apply pw_below_drewN | apply below_drew1) | exact HB.out)) hb); clear HB; have HB := n0_; clear n0_; (try clear hb); (try clear hb2); (try clear hk); (try clear hi)) | (go_at_call 15; (with_reducible refine (lodestarref15_Or.calls k a0 _ _ l1 t192 _ ?side1 ?side2 A10.out).mono ?_); (case side1 => repeat (first | exact (Kd.C_below HR1.out HB.out) | (with_reducible refine Kd.C_alloc ?_ _) | (with_reducible refine Kd.C_drewN ?_ _) | (with_reducible refine Kd.C_drew ?_))); (case side2 => exact HC1.out); rintro e w14 ⟨rfl, hb⟩; have n0_ := Aside0.mk (below_step (by repeat (first | (with_reducible first | exact HB.out | apply below_alloc | apply pw_below_drewN | apply below_drew1) | exact HB.out)) hb); clear HB; have HB := n0_; clear n0_; (try clear hb); (try clear hb2); (try clear hk); (try clear hi)))
          go_meet
          case rel => exact ⟨_, (true), (by first | rfl | (simp; done) | (simp [*]; done)), H', ⟨by first | omega | exact Nat.le_refl _⟩, ⟨by repeat (first | (with_reducible first | exact HB.out | apply below_alloc | apply pw_below_drewN | apply below_drew1) | exact HB.out)⟩⟩
        · rw [if_neg c12] at H
          have c12b0 : decide (t189 < 0) = false := decide_eq_false c12
          clear c12
          by_cases c15 : t190 < 0
          · rw [if_pos c15] at H
            have c15b0 : decide (t190 < 0) = true := decide_eq_true c15
            clear c15
            have H' := Aside0.mk H
            clear H
            go_wp2_with (first | ((with_reducible refine gate_callee (f := 14) rfl ?_); refine goesL_ (some 18) rfl rfl Try.func14 (by kernel_rfl) rfl #[.int .i64 a0, .slice A1 l1.length c1] rfl (by (try simp only [List.map_toArray, List.map_cons, List.map_nil]); first | done | rfl | (simp only [List.length_drop, List.length_take]; rfl)) ?_; (with_reducible refine (lodestarref15_And.calls k a0 _ _ l1 t191 _ ?side1 ?side2 A8.out).mono ?_); (case side1 => repeat (first | exact (Kd.C_below HR1.out HB.out) | (with_reducible refine Kd.C_alloc ?_ _) | (with_reducible refine Kd.C_drewN ?_ _) | (with_reducible refine Kd.C_drew ?_))); (case side2 => exact HC1.out); rintro e w16 ⟨rfl, hb⟩; refine ⟨_, rfl, ?_⟩; have n0_ := Aside0.mk (below_step (by repeat (first | (with_reducible first | exact HB.out | apply below_alloc | apply pw_below_drewN | apply below_drew1) | exact HB.out)) hb); clear HB; have HB := n0_; clear n0_; (try clear hb); (try clear hb2); (try clear hk); (try clear hi)) | (go_at_call 15; (with_reducible refine (lodestarref15_Or.calls k a0 _ _ l1 t192 _ ?side1 ?side2 A10.out).mono ?_); (case side1 => repeat (first | exact (Kd.C_below HR1.out HB.out) | (with_reducible refine Kd.C_alloc ?_ _) | (with_reducible refine Kd.C_drewN ?_ _) | (with_reducible refine Kd.C_drew ?_))); (case side2 => exact HC1.out); rintro e w17 ⟨rfl, hb⟩; have n0_ := Aside0.mk (below_step (by repeat (first | (with_reducible first | exact HB.out | apply below_alloc | apply pw_below_drewN | apply below_drew1) | exact HB.out)) hb); clear HB; have HB := n0_; clear n0_; (try clear hb); (try clear hb2); (try clear hk); (try clear hi)))
            go_meet
            case rel => exact ⟨_, (true), (by first | rfl | (simp; done) | (simp [*]; done)), H', ⟨by first | omega | exact Nat.le_refl _⟩, ⟨by repeat (first | (with_reducible first | exact HB.out | apply below_alloc | apply pw_below_drewN | apply below_drew1) | exact HB.out)⟩⟩
          · rw [if_neg c15] at H
            have c15b0 : decide (t190 < 0) = false := decide_eq_false c15
            clear c15
            obtain ⟨ji18, hji18⟩ : ∃ j_ : Int, (mx a0 0) = j_ := ⟨_, rfl⟩
            replace H : (if t189 > (ji18) then (lodestarlaw15_StatsJoins.j0 k a0 l1 t189 t190 true) else (lodestarlaw15_StatsJoins.j0 k a0 l1 t189 t190 (decide (t190 > (ji18))))) = some r := by first | (rw [hji18] at H; exact H) | (simp only [hji18] at H ⊢; exact H)
            (try rw [hji18] at A8)
            (try rw [hji18] at A10)
            (try (have hji18l : 0 ≤ ji18 := by (rw [← hji18]; unfold mx; (repeat' split) <;> omega)))
            (try (have hji18m : 0 ≤ ji18 := by omega))
            have hji18_ : (if a0 < 0 then 0 else a0) = ji18 := hji18
            by_cases c19 : t189 > (ji18)
            · rw [if_pos c19] at H
              have c19b0 : decide ((ji18) < t189) = true := decide_eq_true c19
              clear c19
              have H' := Aside0.mk H
              clear H
              go_wp2_with (first | ((with_reducible refine gate_callee (f := 14) rfl ?_); refine goesL_ (some 18) rfl rfl Try.func14 (by kernel_rfl) rfl #[.int .i64 a0, .slice A1 l1.length c1] rfl (by (try simp only [List.map_toArray, List.map_cons, List.map_nil]); first | done | rfl | (simp only [List.length_drop, List.length_take]; rfl)) ?_; (with_reducible refine (lodestarref15_And.calls k a0 _ _ l1 t191 _ ?side1 ?side2 A8.out).mono ?_); (case side1 => repeat (first | exact (Kd.C_below HR1.out HB.out) | (with_reducible refine Kd.C_alloc ?_ _) | (with_reducible refine Kd.C_drewN ?_ _) | (with_reducible refine Kd.C_drew ?_))); (case side2 => exact HC1.out); rintro e w20 ⟨rfl, hb⟩; refine ⟨_, rfl, ?_⟩; have n0_ := Aside0.mk (below_step (by repeat (first | (with_reducible first | exact HB.out | apply below_alloc | apply pw_below_drewN | apply below_drew1) | exact HB.out)) hb); clear HB; have HB := n0_; clear n0_; (try clear hb); (try clear hb2); (try clear hk); (try clear hi)) | (go_at_call 15; (with_reducible refine (lodestarref15_Or.calls k a0 _ _ l1 t192 _ ?side1 ?side2 A10.out).mono ?_); (case side1 => repeat (first | exact (Kd.C_below HR1.out HB.out) | (with_reducible refine Kd.C_alloc ?_ _) | (with_reducible refine Kd.C_drewN ?_ _) | (with_reducible refine Kd.C_drew ?_))); (case side2 => exact HC1.out); rintro e w21 ⟨rfl, hb⟩; have n0_ := Aside0.mk (below_step (by repeat (first | (with_reducible first | exact HB.out | apply below_alloc | apply pw_below_drewN | apply below_drew1) | exact HB.out)) hb); clear HB; have HB := n0_; clear n0_; (try clear hb); (try clear hb2); (try clear hk); (try clear hi)))
              go_meet
              case rel => exact ⟨_, (true), (by first | rfl | (simp; done) | (simp [*]; done)), H', ⟨by first | omega | exact Nat.le_refl _⟩, ⟨by repeat (first | (with_reducible first | exact HB.out | apply below_alloc | apply pw_below_drewN | apply below_drew1) | exact HB.out)⟩⟩
            · rw [if_neg c19] at H
              have c19b0 : decide ((ji18) < t189) = false := decide_eq_false c19
              clear c19
              have H' := Aside0.mk H
              clear H
              go_wp2_with (first | ((with_reducible refine gate_callee (f := 14) rfl ?_); refine goesL_ (some 18) rfl rfl Try.func14 (by kernel_rfl) rfl #[.int .i64 a0, .slice A1 l1.length c1] rfl (by (try simp only [List.map_toArray, List.map_cons, List.map_nil]); first | done | rfl | (simp only [List.length_drop, List.length_take]; rfl)) ?_; (with_reducible refine (lodestarref15_And.calls k a0 _ _ l1 t191 _ ?side1 ?side2 A8.out).mono ?_); (case side1 => repeat (first | exact (Kd.C_below HR1.out HB.out) | (with_reducible refine Kd.C_alloc ?_ _) | (with_reducible refine Kd.C_drewN ?_ _) | (with_reducible refine Kd.C_drew ?_))); (case side2 => exact HC1.out); rintro e w23 ⟨rfl, hb⟩; refine ⟨_, rfl, ?_⟩; have n0_ := Aside0.mk (below_step (by repeat (first | (with_reducible first | exact HB.out | apply below_alloc | apply pw_below_drewN | apply below_drew1) | exact HB.out)) hb); clear HB; have HB := n0_; clear n0_; (try clear hb); (try clear hb2); (try clear hk); (try clear hi)) | (go_at_call 15; (with_reducible refine (lodestarref15_Or.calls k a0 _ _ l1 t192 _ ?side1 ?side2 A10.out).mono ?_); (case side1 => repeat (first | exact (Kd.C_below HR1.out HB.out) | (with_reducible refine Kd.C_alloc ?_ _) | (with_reducible refine Kd.C_drewN ?_ _) | (with_reducible refine Kd.C_drew ?_))); (case side2 => exact HC1.out); rintro e w24 ⟨rfl, hb⟩; have n0_ := Aside0.mk (below_step (by repeat (first | (with_reducible first | exact HB.out | apply below_alloc | apply pw_below_drewN | apply below_drew1) | exact HB.out)) hb); clear HB; have HB := n0_; clear n0_; (try clear hb); (try clear hb2); (try clear hk); (try clear hi)))
              go_meet
              case rel => exact ⟨_, (decide (t190 > (ji18))), (by first | rfl | (simp; done) | (simp only [← hji18] <;> (first | rfl | simp)) | (simp [*]; done)), H', ⟨by first | omega | exact Nat.le_refl _⟩, ⟨by repeat (first | (with_reducible first | exact HB.out | apply below_alloc | apply pw_below_drewN | apply below_drew1) | exact HB.out)⟩⟩
      · rw [if_neg c11] at H
        have c11b0 : (t190 == t192) = false := beq_eq_false_iff_ne.mpr c11
        have c11b1 : (t190 != t192) = true := bne_iff_ne.mpr c11
        have H' := Aside0.mk H
        clear H
        go_wp2_with (first | ((with_reducible refine gate_callee (f := 14) rfl ?_); refine goesL_ (some 18) rfl rfl Try.func14 (by kernel_rfl) rfl #[.int .i64 a0, .slice A1 l1.length c1] rfl (by (try simp only [List.map_toArray, List.map_cons, List.map_nil]); first | done | rfl | (simp only [List.length_drop, List.length_take]; rfl)) ?_; (with_reducible refine (lodestarref15_And.calls k a0 _ _ l1 t191 _ ?side1 ?side2 A8.out).mono ?_); (case side1 => repeat (first | exact (Kd.C_below HR1.out HB.out) | (with_reducible refine Kd.C_alloc ?_ _) | (with_reducible refine Kd.C_drewN ?_ _) | (with_reducible refine Kd.C_drew ?_))); (case side2 => exact HC1.out); rintro e w25 ⟨rfl, hb⟩; refine ⟨_, rfl, ?_⟩; have n0_ := Aside0.mk (below_step (by repeat (first | (with_reducible first | exact HB.out | apply below_alloc | apply pw_below_drewN | apply below_drew1) | exact HB.out)) hb); clear HB; have HB := n0_; clear n0_; (try clear hb); (try clear hb2); (try clear hk); (try clear hi)) | (go_at_call 15; (with_reducible refine (lodestarref15_Or.calls k a0 _ _ l1 t192 _ ?side1 ?side2 A10.out).mono ?_); (case side1 => repeat (first | exact (Kd.C_below HR1.out HB.out) | (with_reducible refine Kd.C_alloc ?_ _) | (with_reducible refine Kd.C_drewN ?_ _) | (with_reducible refine Kd.C_drew ?_))); (case side2 => exact HC1.out); rintro e w26 ⟨rfl, hb⟩; have n0_ := Aside0.mk (below_step (by repeat (first | (with_reducible first | exact HB.out | apply below_alloc | apply pw_below_drewN | apply below_drew1) | exact HB.out)) hb); clear HB; have HB := n0_; clear n0_; (try clear hb); (try clear hb2); (try clear hk); (try clear hi)))
        go_meet
        case rel => exact ⟨_, (true), (by first | rfl | (simp; done) | (simp [*]; done)), H', ⟨by first | omega | exact Nat.le_refl _⟩, ⟨by repeat (first | (with_reducible first | exact HB.out | apply below_alloc | apply pw_below_drewN | apply below_drew1) | exact HB.out)⟩⟩
    · rw [if_neg c9] at H
      have c9b0 : (t189 == t191) = false := beq_eq_false_iff_ne.mpr c9
      have c9b1 : (t189 != t191) = true := bne_iff_ne.mpr c9
      (first | rw [c9b0] | (simp only [i64_w, i32_w]; rw [c9b0]) | skip)
      have H' := Aside0.mk H
      clear H
      go_wp2_with (first | ((with_reducible refine gate_callee (f := 14) rfl ?_); refine goesL_ (some 18) rfl rfl Try.func14 (by kernel_rfl) rfl #[.int .i64 a0, .slice A1 l1.length c1] rfl (by (try simp only [List.map_toArray, List.map_cons, List.map_nil]); first | done | rfl | (simp only [List.length_drop, List.length_take]; rfl)) ?_; (with_reducible refine (lodestarref15_And.calls k a0 _ _ l1 t191 _ ?side1 ?side2 A8.out).mono ?_); (case side1 => repeat (first | exact (Kd.C_below HR1.out HB.out) | (with_reducible refine Kd.C_alloc ?_ _) | (with_reducible refine Kd.C_drewN ?_ _) | (with_reducible refine Kd.C_drew ?_))); (case side2 => exact HC1.out); rintro e w27 ⟨rfl, hb⟩; refine ⟨_, rfl, ?_⟩; have n0_ := Aside0.mk (below_step (by repeat (first | (with_reducible first | exact HB.out | apply below_alloc | apply pw_below_drewN | apply below_drew1) | exact HB.out)) hb); clear HB; have HB := n0_; clear n0_; (try clear hb); (try clear hb2); (try clear hk); (try clear hi)))
      go_meet
      case rel => exact ⟨_, (true), (by first | rfl | (simp; done) | (simp [*]; done)), H', ⟨by first | omega | exact Nat.le_refl _⟩, ⟨by repeat (first | (with_reducible first | exact HB.out | apply below_alloc | apply pw_below_drewN | apply below_drew1) | exact HB.out)⟩⟩
  case rest =>
    clear HC5
    try clear c1
    try clear c2
    try clear p2
    try clear c5
    try clear c9
    try clear c9b0
    try clear c9b1
    try clear c11
    try clear c11b0
    try clear c11b1
    try clear c12
    try clear c12b0
    try clear c13
    try clear c14
    try clear c15
    try clear c15b0
    try clear c19
    try clear c19b0
    try clear c22
    try clear c22b0
    obtain ⟨kq, x46_4, rfl, HA, HJ4, HB⟩ := hcut
    cases kq with
    | zero => exact absurd HA.out (by simp [lodestarlaw15_StatsJoins.j0])
    | succ kj4 =>
      have H := HA.out
      clear HA
      simp only [lodestarlaw15_StatsJoins.j0] at H
      by_cases c28 : x46_4 = true
      · subst c28
        have H1 : (some false) = some r := by rw [if_pos rfl] at H; exact H
        clear H
        have H := H1
        clear H1
        obtain rfl := Option.some.inj H
        go_wp2
        go_ret
        exact ⟨by first | rfl | (simp [errW_none, errW_some] <;> rfl) | (simp [*, errW_none, errW_some] <;> rfl), by repeat (first | (with_reducible first | exact HB.out | apply below_alloc | apply pw_below_drewN | apply below_drew1) | exact HB.out)⟩
      · replace c28 := Bool.eq_false_iff.mpr c28
        subst c28
        have H1 : (lodestarlaw15_StatsJoins.l0 kj4 a0 l1 t189 t190 0) = some r := by rw [if_neg (show ¬ (false = true) by decide)] at H; exact H
        clear H
        have H := H1
        clear H1
        have H' := Aside0.mk H
        clear H
        go_wp2
        go_loopg [7] kj4 (fun kq v7 w' => ∃ (x7_2 : Int), v7 = .int .i64 x7_2 ∧ Aside0 (lodestarlaw15_StatsJoins.l0 kq a0 l1 t189 t190 x7_2 = some r) ∧ Aside0 (kq ≤ kj4) ∧ Aside0 (Below w.heap.size w w'))
        case atStart => exact ⟨(0), (by first | rfl | (simp; done) | (simp [*]; done)), H', ⟨Nat.le_refl _⟩, ⟨by repeat (first | (with_reducible first | exact HB.out | apply below_alloc | apply pw_below_drewN | apply below_drew1) | exact HB.out)⟩⟩
        case round =>
          clear H'
          try clear c1
          try clear c2
          try clear p2
          try clear c5
          try clear c9
          try clear c9b0
          try clear c9b1
          try clear c11
          try clear c11b0
          try clear c11b1
          try clear c12
          try clear c12b0
          try clear c13
          try clear c14
          try clear c15
          try clear c15b0
          try clear c19
          try clear c19b0
          try clear c22
          try clear c22b0
          try clear c28
          try clear p2
          obtain ⟨x7_2, rfl, HA, HK2, HB⟩ := hrel
          cases gk with
          | zero => exact absurd HA.out (by simp [lodestarlaw15_StatsJoins.l0])
          | succ k2 =>
            have H := HA.out
            clear HA
            simp only [lodestarlaw15_StatsJoins.l0] at H
            by_cases c29 : x7_2 < (l1.length : Int)
            · rw [if_pos c29] at H
              have c29b0 : decide (x7_2 < (l1.length : Int)) = true := decide_eq_true c29
              clear c29
              by_cases c30 : 0 ≤ x7_2
              · rw [if_pos c30] at H
                have c30b0 : decide (0 ≤ x7_2) = true := decide_eq_true c30
                clear c30
                obtain ⟨ji31, hji31⟩ : ∃ j_ : Int, (mx a0 0) = j_ := ⟨_, rfl⟩
                replace H : (if t189 > (mx 0 (mn (rd l1 x7_2) (ji31))) then (some false) else (if t190 < (mx 0 (mn (rd l1 x7_2) (ji31))) then (some false) else (lodestarlaw15_StatsJoins.l0 k2 a0 l1 t189 t190 (wrap64 (x7_2 + 1))))) = some r := by first | (rw [hji31] at H; exact H) | (simp only [hji31] at H ⊢; exact H)
                (try (have hji31l : 0 ≤ ji31 := by (rw [← hji31]; unfold mx; (repeat' split) <;> omega)))
                (try (have hji31m : 0 ≤ ji31 := by omega))
                have hji31_ : (if a0 < 0 then 0 else a0) = ji31 := hji31
                obtain ⟨ji32, hji32⟩ : ∃ j_ : Int, (mn (rd l1 x7_2) (ji31)) = j_ := ⟨_, rfl⟩
                replace H : (if t189 > (mx 0 (ji32)) then (some false) else (if t190 < (mx 0 (ji32)) then (some false) else (lodestarlaw15_StatsJoins.l0 k2 a0 l1 t189 t190 (wrap64 (x7_2 + 1))))) = some r := by first | (rw [hji32] at H; exact H) | (simp only [hji32] at H ⊢; exact H)
                have hji32_ : (if (ji31) < (rd l1 x7_2) then (ji31) else (rd l1 x7_2)) = ji32 := hji32
                obtain ⟨ji33, hji33⟩ : ∃ j_ : Int, (mx 0 (ji32)) = j_ := ⟨_, rfl⟩
                replace H : (if t189 > (ji33) then (some false) else (if t190 < (ji33) then (some false) else (lodestarlaw15_StatsJoins.l0 k2 a0 l1 t189 t190 (wrap64 (x7_2 + 1))))) = some r := by first | (rw [hji33] at H; exact H) | (simp only [hji33] at H ⊢; exact H)
                have hji33_ : (if 0 < (ji32) then (ji32) else 0) = ji33 := hji33
                by_cases c34 : t189 > (ji33)
                · rw [if_pos c34] at H
                  have c34b0 : decide ((ji33) < t189) = true := decide_eq_true c34
                  clear c34
                  obtain rfl := Option.some.inj H
                  have p193 : 0 ≤ (x7_2 : Int) := of_decide_eq_true (by first | (with_reducible assumption) | assumption)
                  have q193 : x7_2 < (l1.length : Int) := of_decide_eq_true (by first | (with_reducible assumption) | assumption)
                  obtain ⟨ad193, e193, hx193_0⟩ := Kd.at_int HR1.out x7_2 p193 q193
                  cases e193
                  replace hx193_0 := (HB.out.cell (World.block_lt_of_cell? w _ hx193_0)).trans hx193_0
                  replace p193 := eq_true p193
                  replace q193 := eq_true q193
                  go_wp2
                  go_ret
                  exact ⟨by first | rfl | (simp [errW_none, errW_some] <;> rfl) | (simp only [← hji31, ← hji32, ← hji33]; first | rfl | (simp [errW_none, errW_some] <;> rfl)) | (simp [*, errW_none, errW_some] <;> rfl), by repeat (first | (with_reducible first | exact HB.out | apply below_alloc | apply pw_below_drewN | apply below_drew1) | exact HB.out)⟩
                · rw [if_neg c34] at H
                  have c34b0 : decide ((ji33) < t189) = false := decide_eq_false c34
                  clear c34
                  by_cases c35 : t190 < (ji33)
                  · rw [if_pos c35] at H
                    have c35b0 : decide (t190 < (ji33)) = true := decide_eq_true c35
                    clear c35
                    obtain rfl := Option.some.inj H
                    have p193 : 0 ≤ (x7_2 : Int) := of_decide_eq_true (by first | (with_reducible assumption) | assumption)
                    have q193 : x7_2 < (l1.length : Int) := of_decide_eq_true (by first | (with_reducible assumption) | assumption)
                    obtain ⟨ad193, e193, hx193_0⟩ := Kd.at_int HR1.out x7_2 p193 q193
                    cases e193
                    replace hx193_0 := (HB.out.cell (World.block_lt_of_cell? w _ hx193_0)).trans hx193_0
                    replace p193 := eq_true p193
                    replace q193 := eq_true q193
                    go_wp2
                    go_ret
                    exact ⟨by first | rfl | (simp [errW_none, errW_some] <;> rfl) | (simp only [← hji31, ← hji32, ← hji33]; first | rfl | (simp [errW_none, errW_some] <;> rfl)) | (simp [*, errW_none, errW_some] <;> rfl), by repeat (first | (with_reducible first | exact HB.out | apply below_alloc | apply pw_below_drewN | apply below_drew1) | exact HB.out)⟩
                  · rw [if_neg c35] at H
                    have c35b0 : decide (t190 < (ji33)) = false := decide_eq_false c35
                    clear c35
                    have H' := Aside0.mk H
                    clear H
                    have p193 : 0 ≤ (x7_2 : Int) := of_decide_eq_true (by first | (with_reducible assumption) | assumption)
                    have q193 : x7_2 < (l1.length : Int) := of_decide_eq_true (by first | (with_reducible assumption) | assumption)
                    obtain ⟨ad193, e193, hx193_0⟩ := Kd.at_int HR1.out x7_2 p193 q193
                    cases e193
                    replace hx193_0 := (HB.out.cell (World.block_lt_of_cell? w _ hx193_0)).trans hx193_0
                    replace p193 := eq_true p193
                    replace q193 := eq_true q193
                    go_wp2
                    go_roundg k2
                    case measure => have := HJ4.out; have := HK2.out; omega
                    case rel => exact ⟨(wrap64 (x7_2 + 1)), (by first | rfl | (simp; done) | (simp [*]; done)), H', ⟨by have := HJ4.out; have := HK2.out; omega⟩, ⟨by repeat (first | (with_reducible first | exact HB.out | apply below_alloc | apply pw_below_drewN | apply below_drew1) | exact HB.out)⟩⟩
              · rw [if_neg c30] at H
                exact absurd H (by simp)
            · rw [if_neg c29] at H
              have c29b0 : decide (x7_2 < (l1.length : Int)) = false := decide_eq_false c29
              clear c29
              replace H := Option.bind_eq_some_iff.mp H
              obtain ⟨t194, A360, H⟩ := H
              replace H : (some t194) = some r := H
              have A36 := Aside0.mk A360
              clear A360
              obtain rfl := Option.some.inj H
              go_wp2_with (first | ((with_reducible refine gate_callee (f := 10) rfl ?_); refine goesL_ (some 69) rfl rfl Try.func10 (by kernel_rfl) rfl #[] rfl (by (try simp only [List.map_toArray, List.map_cons, List.map_nil]); first | done | rfl | (simp only [List.length_drop, List.length_take]; rfl)) ?_; (with_reducible refine (lodestarlaw15_awake.calls k2  t194 _ A36.out).mono ?_); rintro e w37 ⟨rfl, hb⟩; refine ⟨_, rfl, ?_⟩; have n0_ := Aside0.mk (below_step (by repeat (first | (with_reducible first | exact HB.out | apply below_alloc | apply pw_below_drewN | apply below_drew1) | exact HB.out)) hb); clear HB; have HB := n0_; clear n0_; (try clear hb); (try clear hb2); (try clear hk); (try clear hi)))
              go_ret
              exact ⟨by first | rfl | (simp [errW_none, errW_some] <;> rfl) | (simp [*, errW_none, errW_some] <;> rfl), by repeat (first | (with_reducible first | exact HB.out | apply below_alloc | apply pw_below_drewN | apply below_drew1) | exact HB.out)⟩

/-- THE ONE PURE STATEMENT of lodestarlaw15_StatsJoins: yours. -/
def lodestarlaw15_StatsJoins.Pure : Prop := ∀ (a0 : Int) (l1 : List Int), (Lit.int .i64 a0).wf = true → l1.length ≤ maxLen → l1.length * 8 ≤ 140737488351232 → (∀ x ∈ l1, (Lit.int .i64 x).wf = true) → ∃ k, lodestarlaw15_StatsJoins.f k a0 l1 = some true
theorem lodestarlaw15_StatsJoins.walk (P : lodestarlaw15_StatsJoins.Pure) (a0 : Int) (a1 : Option Addr) (len1 cap1 : Nat) (z1 : List Int) (w : World) (w0 : (Lit.int .i64 a0).wf = true) (w1 : (a1 = none ∧ len1 = 0 ∧ cap1 = 0 ∧ z1 = []) ∨ ∃ x, a1 = some x ∧ len1 ≤ cap1 ∧ cap1 ≤ maxLen ∧ z1.length = cap1 ∧ (∀ i, i < z1.length → w.cell? (x.add i) = some (.int .i64 (z1.getD i 0))) ∧ ∀ n ∈ z1, (Lit.int .i64 n).wf = true) (y1 : len1 * 8 ≤ 140737488351232) :
    Calls Try.prog 5 #[.int .i64 a0, .slice a1 len1 cap1] w fun e w' => e = .returned (.bool true) ∧ Below w.heap.size w w' := by
  obtain ⟨l1, rfl, hr1, hm1, hw1, hc1⟩ := ReadsInt.ofRowC w1
  obtain ⟨k, h⟩ := P a0 l1 w0 hm1 y1 hw1
  refine (lodestarlaw15_StatsJoins.calls k a0 _ _ l1 true w (Kd.C_of_reads (d := (0 : Int)) (h1 := fun _ => rfl) hr1) hc1 h).mono ?_
  rintro e w' ⟨rfl, hd⟩
  exact ⟨rfl, hd⟩

end Go.Proofs.Ytihanpdfnpgnfaa.PAll

/- Contracts of lodestar/ids's All and of a range over it. -/
import Derived.Test.YthaofmbjkdikbaaDoorHAll
import Derived.RangeFuncBox
import Derived.RangeFuncLeaves
import Derived.RangeFuncBound
import Derived.RangeFuncCalls
import Derived.RangeFuncNested
import Derived.Shelf.Abstract
import Derived.Shelf.RegionOpen
import Derived.OwnWalkIn
import Derived.TacticsInMore
import Derived.LoopNIn
import Derived.LoopIn
import Derived.Maps.AppendAt
import Derived.Sort.BigQuietIn
import Derived.Outline
import Derived.Lib.Hide
namespace Go.Proofs.YthaofmbjkdikbaaDoor.H
open Go.RowKit Go.Shelf Go.Proofs.YthaofmbjkdikbaaDoorW.PrintWords
set_option linter.unusedVariables false
attribute [local go_sem] Oper.semAt_some

set_option maxHeartbeats 1000000 in
/-- All(a, b): the two sets in new memory, boxed; the function value captures the boxes. -/
theorem all_calls (A0 : Option Addr) (c0 : Nat) (l0 : List Int) (A1 : Option Addr) (c1 : Nat) (l1 : List Int) (w : World) (hr0 : Kd.C (Kd.int .i64) w A0 l0.length l0) (hr1 : Kd.C (Kd.int .i64) w A1 l1.length l1) (hb0 : l0.length ≤ 17592186044416) (hb1 : l1.length ≤ 17592186044416) :
    Calls Tryd.prog 49 #[.slice A0 l0.length c0, .slice A1 l1.length c1] w fun e w' => ∃ (Bx By : Nat) (vx vy : Value), e = .returned (.func (.func 53) #[] #[.pointer (some ⟨Bx, 0, none⟩), .pointer (some ⟨By, 0, none⟩)]) ∧
      (w.heap.size ≤ Bx ∧ Bx < w'.heap.size) ∧ (w.heap.size ≤ By ∧ By < w'.heap.size) ∧ w'.cell? ⟨Bx, 0, none⟩ = some vx ∧ w'.cell? ⟨By, 0, none⟩ = some vy ∧ Ints w.heap.size w'.heap.size w' vx (setL l0) ∧ Ints w.heap.size w'.heap.size w' vy (setL l1) ∧ Below w.heap.size w w' := by
  have C1 := set_calls A0 c0 l0 w hr0 hb0
  go_enter Tryd.func49, Tryd.ntmps49
  go_wp2_with fail
  refine C1.mono ?_
  rintro e w1 ⟨v1, rfl, hR1, hB1⟩
  have C2 := set_calls A1 c1 l1 w1 (Kd.C_below hr1 hB1) hb1
  go_wp2_with fail
  refine C2.mono ?_
  rintro e w2 ⟨v2, rfl, hR2, hB2⟩
  obtain ⟨a1, k1, rfl⟩ := Kd.R_slice hR1
  obtain ⟨a2, k2, rfl⟩ := Kd.R_slice hR2
  go_wp2_with fail
  go_ret
  have s1 := hB1.size
  have s2 := hB2.size
  have hW : Below w2.heap.size w2 ((w2.alloc (.cells #[.slice a1 (setL l0).length k1] 38)).alloc (.cells #[.slice a2 (setL l1).length k2] 38)) := ((Below.refl _ w2).alloc (Nat.le_refl _) _).alloc (by simp) _
  refine ⟨w2.heap.size, w2.heap.size + 1, .slice a1 (setL l0).length k1, .slice a2 (setL l1).length k2, rfl, ?_⟩
  refine ⟨?_, ?_, ?_, ?_, ?_, ?_, ?_⟩
  · exact ⟨by omega, by simp; omega⟩
  · exact ⟨by omega, by simp⟩
  · exact ((Boxed.new w2 38 (.slice a1 (setL l0).length k1)).alloc (.cells #[.slice a2 (setL l1).length k2] 38)).cell
  · have := (Boxed.new (w2.alloc (.cells #[.slice a1 (setL l0).length k1] 38)) 38 (.slice a2 (setL l1).length k2)).cell
    rwa [World.size_alloc] at this
  · exact Ints.of_R hR1 (Nat.le_refl _) (fun k hk => (hW.block k (by omega)).trans (hB2.block k hk)) (by simp; omega)
  · exact Ints.of_R hR2 s1 (fun k hk => hW.block k hk) (by simp; omega)
  · exact (hB1.trans (hB2.mono s1)).trans (hW.mono (by omega))

theorem contains_C {w : World} {A : Option Addr} {c : Nat} {xs : List Int} (v : Int) (h : Kd.C (Kd.int .i64) w A xs.length xs) :
    Calls Tryd.prog 50 #[.slice A xs.length c, .int .i64 v] w fun e w' => e = .returned (.bool (xs.contains v)) ∧ w' = w := by
  by_cases hn : 0 < xs.length
  · obtain ⟨b, off, rfl, hc⟩ := cells_of_C h hn
    have := Tryd.slices_Contains_int b off xs.length c xs v w (Nat.le_refl _) h.2.1 hc
    rwa [List.take_length] at this
  · have : xs = [] := List.eq_nil_of_length_eq_zero (by omega)
    subst this
    exact Tryd.slices_Contains_int_empty A c v w

theorem appended2 {W w1 : World} {h up B : Nat} {t e : TypeId} {size : Nat} {v v' : Value} {k m : Nat} {xs ys : List Value} {tmp : Obj}
    (hv : Boxed W B t v) (hte : t ≠ e) (hrow : W.ownsRow up e size v k xs) (hup : up ≤ W.heap.size) (hh : h ≤ B) (hBlo : B < up)
    (hown' : w1.ownsRow up e size v' m ys) (hgrow : (W.alloc tmp).grownBy w1 v.ownBlock) :
    Boxed w1 B t v ∧ Boxed (w1.setCell ⟨B, 0, none⟩ v') B t v' ∧ (w1.setCell ⟨B, 0, none⟩ v').ownsRow up e size v' m ys ∧ KeepsOthers W (w1.setCell ⟨B, 0, none⟩ v') ∧ Below h W (w1.setCell ⟨B, 0, none⟩ v') ∧ (∀ k, k < up → k ≠ B → (w1.setCell ⟨B, 0, none⟩ v').heap[k]? = W.heap[k]?) := by
  obtain ⟨g1, g2, g3, g4, g5⟩ := hv.appended (n₀ := h) hte (own_weaken hrow (by omega)) (by omega) hh (own_weaken hown' (by omega)) hgrow
  refine ⟨g1, g2, own_move hown' (fun k hk => ?_), g4, g5, fun k h2 h1 => ?_⟩
  · have := (hown'.lt k hk).1
    exact Below.heap_setCell _ ⟨B, 0, none⟩ v' k (by show k ≠ B; omega)
  · refine (Below.heap_setCell _ ⟨B, 0, none⟩ v' k (by show k ≠ B; exact h1)).trans ((hgrow.block k (by simp; omega) (fun e => ?_)).trans (Below.heap_alloc W _ k (by omega)))
    have := (hrow.lt k e.symm).1
    omega

def someL (l0 l1 l2 : List Int) : List Int := ((mg (setL l0) (setL l1)).filter fun p => l2.contains p.2).map (·.1)
def sofar (l2 : List Int) (pre : List (Int × Int)) : List Int := (pre.filter fun p => l2.contains p.2).map (·.1)
theorem sofar_hit (l2 : List Int) (pre : List (Int × Int)) {x : Int × Int} (h : l2.contains x.2 = true) : sofar l2 (pre ++ [x]) = sofar l2 pre ++ [x.1] := by
  unfold sofar; rw [List.filter_append, List.filter_cons, if_pos h]; simp
theorem sofar_miss (l2 : List Int) (pre : List (Int × Int)) {x : Int × Int} (h : l2.contains x.2 = false) : sofar l2 (pre ++ [x]) = sofar l2 pre := by
  unfold sofar; rw [List.filter_append, List.filter_cons, if_neg (by rw [h]; simp)]; simp
theorem sofar_le (l2 : List Int) (pre : List (Int × Int)) : (sofar l2 pre).length ≤ pre.length := by
  unfold sofar; rw [List.length_map]; exact List.length_filter_le _ _
theorem mg_le (x y : List Int) : (mg x y).length ≤ x.length + y.length := by
  induction x, y using mg.induct <;> (unfold mg; try simp_all; try split) <;> (try simp_all) <;> (try omega) <;> (rw [if_neg (by omega)]; simp; omega)
theorem infoI : (Tryd.prog.info? 3).map (fun i => (i.zero, i.size, i.bytes)) = some (some (.int .i64 0), 1, 8) := by kernel_rfl

set_option maxRecDepth 100000 in
set_option maxHeartbeats 4000000 in
theorem some_calls (A0 : Option Addr) (c0 : Nat) (l0 : List Int) (A1 : Option Addr) (c1 : Nat) (l1 : List Int) (A2 : Option Addr) (c2 : Nat) (l2 : List Int) (w : World) (hr0 : Kd.C (Kd.int .i64) w A0 l0.length l0) (hr1 : Kd.C (Kd.int .i64) w A1 l1.length l1) (hr2 : Kd.C (Kd.int .i64) w A2 l2.length l2)
    (hb : l0.length + l1.length < 17592186044416) :
    Calls Tryd.prog 43 #[.slice A0 l0.length c0, .slice A1 l1.length c1, .slice A2 l2.length c2] w fun e w' => ∃ v0_ : Value, e = .returned v0_ ∧ Kd.R (Kd.int .i64) 3 w' w.heap.size (fun _ => True) v0_ (someL l0 l1 l2) ∧ Below w.heap.size w w' := by
  obtain ⟨i0, hi, hz0, hz1, hz2⟩ := info_parts infoI
  refine (callsIn_wide (n := 6)).1 ?_
  refine callsIn_of_wp_marks Tryd.func43 rfl trivial ?_ rfl
  simp only [Tryd.ntmps43, List.size_toArray, List.length_cons, List.length_nil, Nat.reduceAdd, Nat.reduceSub, Array.replicate_succ, Array.replicate_zero, List.push_toArray, List.append_toArray, List.nil_append, List.cons_append]
  gi_wp2_with fail
  have hW1 : Below w.heap.size w ((w.alloc (.cells #[.slice A2 l2.length c2] 38)).alloc (.cells #[.slice none 0 0] 38)) := ((Below.refl _ w).alloc (Nat.le_refl _) _).alloc (by simp) _
  refine ⟨trivial, ?_⟩
  refine (callsIn_wide.2 (all_calls A0 c0 l0 A1 c1 l1 _ (Kd.C_below hr0 hW1) (Kd.C_below hr1 hW1) (by omega) (by omega))).mono ?_
  rintro e w2 ⟨Bx, By, vx, vy, rfl, hBx, hBy, hcx, hcy, hIx, hIy, hB2⟩
  have z1 : ((w.alloc (.cells #[.slice A2 l2.length c2] 38)).alloc (.cells #[.slice none 0 0] 38)).heap.size = w.heap.size + 2 := by simp
  rw [z1] at hBx hBy hIx hIy hB2
  have hB02 : Below w.heap.size w w2 := hW1.trans (hB2.mono (by omega))
  have b0 : Boxed w2 w.heap.size 38 (.slice A2 l2.length c2) := by
    have := (Boxed.new w 38 (.slice A2 l2.length c2)).alloc (.cells #[.slice none 0 0] 38)
    exact (hB2.block _ (by omega)).trans this
  have b1 : Boxed w2 (w.heap.size + 1) 38 (.slice none 0 0) := by
    have := Boxed.new (w.alloc (.cells #[.slice A2 l2.length c2] 38)) 38 (.slice none 0 0)
    rw [World.size_alloc] at this
    exact (hB2.block _ (by omega)).trans this
  have hsz2 : w.heap.size + 2 ≤ w2.heap.size := by have := hB2.size; rw [z1] at this; exact this
  have hN : (mg (setL l0) (setL l1)).length < 17592186044416 := by have := mg_le (setL l0) (setL l1); have := setL_le l0; have := setL_le l1; omega
  clear hW1 z1
  gi_wp2_with fail
  refine wpIn_rangeFunc_ownG rfl (by decide) (gf := 53) (lb := #[.pointer (some ⟨Bx, 0, none⟩), .pointer (some ⟨By, 0, none⟩)]) rfl trivial (enters_of Tryd.func53 (by kernel_rfl) rfl)
    (all_stops 5 (by omega) Bx By (w.heap.size + 2) w2.heap.size vx vy (setL l0) (setL l1) (by have := setL_le l0; omega) (by have := setL_le l1; omega) hBx hBy w2 (Nat.le_refl _) hcx hcy hIx hIy) KeptIn.trans (keptIn_b (Nat.le_refl _)) (Below.refl _ _) (fun _ => rfl)
    (fun pre W => ((∃ v, Boxed W (w.heap.size + 1) 38 v ∧ W.ownsRow w2.heap.size 3 1 v (sofar l2 pre).length ((sofar l2 pre).map (Value.int .i64)) ∧ True) ∧ Boxed W w.heap.size 38 (.slice A2 l2.length c2)) ∧ (Below w.heap.size w W ∧ w2.heap.size ≤ W.heap.size))
    (fun _ _ _ => False)
    (OwnFrom.and (OwnFrom.and (Own.from (holdsRow_own w2.heap.size (w.heap.size + 1) 38 3 1 (fun pre => (sofar l2 pre).length) (fun pre => (sofar l2 pre).map (Value.int .i64)) (fun pre v => True)) _) (Own.from (boxed_own w.heap.size 38 (fun _ => .slice A2 l2.length c2)) _))
      (OwnFrom.and (ownFrom_below (Nat.le_refl _) (by omega)) (fun s X Y row hs hg hr => Nat.le_trans hs hg.size)))
    (fun _ _ _ _ _ hs _ _ => hs)
    ⟨⟨⟨_, b1, World.ownsRow_nil _ _ _ _, trivial⟩, b0⟩, hB02, Nat.le_refl _⟩
    (fun x => { tmps := #[.slice A0 l0.length c0, .slice A1 l1.length c1, .slice A2 l2.length c2, undef, undef, .pointer (some ⟨w.heap.size, 0, none⟩), .slice none 0 0, .pointer (some ⟨w.heap.size + 1, 0, none⟩), .int .i64 x.1, .int .i64 x.2, .slice A0 l0.length c0, .slice A1 l1.length c1, .func (.func 53) #[] #[.pointer (some ⟨Bx, 0, none⟩), .pointer (some ⟨By, 0, none⟩)], .int .i64 x.1, .int .i64 x.2, undef, undef, undef, undef, undef, undef, undef, undef], defers := [] }) ?assign ?body ?done ?stop
  case assign =>
    intro l x W K hK
    gi_wp2
    exact hK
  case body =>
    rintro l pre x W ⟨⟨⟨v, hv, hrow, _⟩, hw⟩, hB, hsz⟩ hlt
    have hc := hv.cell
    have hcw := hw.cell
    have hpl : (sofar l2 pre).length ≤ pre.length := sofar_le l2 pre
    have hC2 := Kd.C_below hr2 hB
    clear hr0 hr1 hr2 hcx hcy hIx hIy b0 b1 hB02 hB2
    by_cases hin : l2.contains x.2 = true
    · have hhit := Lib.hid (sofar_hit l2 pre hin)
      have hlen : (sofar l2 pre).length + 1 ≤ 17592186044416 := by omega
      gi_wp2_with fail
      refine ⟨trivial, ?_⟩
      refine (CallsIn.inRound l (callsIn_wide.2 (contains_C x.2 hC2))).mono ?_
      rintro e w' ⟨rfl, rfl⟩
      rw [hin]
      gi_wp2_with (gi_at_builtin; refine wpListIn_append_own _ rfl _ _ 38 rfl w2.heap.size 3 i0 (.int .i64 0) 1 8 Tryd.underlying38 hi hz0 hz1 hz2 rfl (by decide) _ _ _ rfl (hrow.alloc _) ⟨w'.heap.size, 0, none⟩ 1 1 [.int .i64 x.1] rfl rfl (cell_one_new _ _ _) (by simp [Value.oneCell']) (by unfold maxLen; omega) (by omega) (by simp; omega) ?_; intro v' w1 hown' hgrow _; obtain ⟨g', cap', rfl⟩ := ownsRow_succ hown'; obtain ⟨hv1, hv2, hr3, hk2, hb2, hki⟩ := appended2 (h := w.heap.size) hv (by decide) hrow hsz (by omega) (by omega) hown' hgrow; have hc1 := hv1.cell; have hf1 := hv1.frozen)
      refine ⟨hk2.from _, fun k h1 h2 => hki k h2 (by omega), ⟨⟨⟨_, hv2, by rw [hhit.out]; simpa using hr3, trivial⟩, (hki _ (by omega) (by omega)).trans hw⟩, hB.trans hb2, ?_⟩⟩
      have := hgrow.size
      have h3 : w1.heap.size = (w1.setCell ⟨w.heap.size + 1, 0, none⟩ (.slice (some ⟨g', 0, none⟩) ((sofar l2 pre).length + 1) cap')).heap.size := by simp [World.setCell]
      simp at this
      omega
    · have hin : l2.contains x.2 = false := by simpa using hin
      gi_wp2_with fail
      refine ⟨trivial, ?_⟩
      refine (CallsIn.inRound l (callsIn_wide.2 (contains_C x.2 hC2))).mono ?_
      rintro e w' ⟨rfl, rfl⟩
      rw [hin]
      gi_wp2
      exact ⟨KeepsFrom.refl _ _, KeptIn.refl _ _ _, ⟨⟨⟨v, hv, by rw [sofar_miss l2 pre hin]; exact hrow, trivial⟩, hw⟩, hB, hsz⟩⟩
  case done =>
    rintro D ys W hD rfl ⟨⟨⟨v, hv, hrow, _⟩, hw⟩, hB, hsz⟩ hK
    have hc := hv.cell
    gi_wp2
    refine ⟨by simp, .inl ⟨_, _, rfl, run_takeDeferred hK, ?_⟩⟩
    refine ⟨_, results_tmp rfl _ _ _, v, rfl, ?_, ?_⟩
    · exact Kd.R_of_own (own_weaken (ownsRow_putObj hrow _ hK rfl) (by omega)) (fun _ _ => trivial)
    · exact hB.trans (belowK_b (w := w) (Nat.le_refl _) W D _ _ (by omega) hK rfl rfl)
  case stop =>
    rintro D c pre W _ _ h _
    exact h.elim
end Go.Proofs.YthaofmbjkdikbaaDoor.H

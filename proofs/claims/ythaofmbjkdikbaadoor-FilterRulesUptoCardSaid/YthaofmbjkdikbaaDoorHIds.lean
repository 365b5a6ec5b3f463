/- Contracts of lodestar/ids's functions that the print does not take: set, over the library's Clone, Sort and Compact. -/
import Derived.Test.YthaofmbjkdikbaaDoorHBase
import Derived.WalkKit
import Derived.OwnWalk
namespace Go.Proofs.YthaofmbjkdikbaaDoor.H
open Go.RowKit Go.Proofs.YthaofmbjkdikbaaDoorW.PrintWords
set_option linter.unusedVariables false

def setL (l : List Int) : List Int := Lib.compact (l.mergeSort fun x y => decide (x ≤ y))
theorem compact_le (zs : List Int) : (Lib.compact zs).length ≤ zs.length := by
  unfold Lib.compact Lib.compactUpTo
  rw [List.length_map]
  exact Nat.le_trans (List.length_filter_le _ _) (by simp)
theorem setL_le (l : List Int) : (setL l).length ≤ l.length := Nat.le_trans (compact_le _) (by simp)

set_option maxHeartbeats 400000 in
theorem set_calls (A0 : Option Addr) (c0 : Nat) (l0 : List Int) (w : World) (hr0 : Kd.C (Kd.int .i64) w A0 l0.length l0) (hb : l0.length ≤ 17592186044416) :
    Calls Tryd.prog 52 #[.slice A0 l0.length c0] w fun e w' => ∃ v0_ : Value, e = .returned v0_ ∧ Kd.R (Kd.int .i64) 3 w' w.heap.size (fun _ => True) v0_ (setL l0) ∧ Below w.heap.size w w' := by
  have C1 := clone_C (c := c0) hr0 hb
  go_enter Tryd.func52, Tryd.ntmps52
  go_wp2_with fail
  refine C1.mono ?_
  rintro e w1 ⟨v1, rfl, ho1, hv1, hB1⟩
  have C2 := sort_own ho1 (by omega)
  go_wp2_with fail
  refine C2.mono ?_
  rintro e w2 ⟨rfl, ho2, hg2⟩
  have hl2 : (l0.mergeSort fun x y => decide (x ≤ y)).length = l0.length := by simp
  rw [← hl2] at ho2
  have C3 := compact_own ho2 (by rw [hl2]; omega) (compact_le _)
  clear hl2
  go_wp2_with fail
  refine C3.mono ?_
  rintro e w3 ⟨v3, rfl, ho3, hg3⟩
  go_wp2_with fail
  go_ret
  refine ⟨_, rfl, Kd.R_of_own ho3 (fun _ _ => trivial), ?_⟩
  have hlow : ∀ k, v1.ownBlock = some k → w.heap.size ≤ k := fun k hk => (ho1.lt k hk).1
  exact (hB1.grown hg2 hB1.size hlow).grown hg3 (Nat.le_trans hB1.size hg2.size) hlow
end Go.Proofs.YthaofmbjkdikbaaDoor.H

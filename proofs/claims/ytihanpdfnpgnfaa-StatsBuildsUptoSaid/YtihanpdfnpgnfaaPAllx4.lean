-- Printed by hp.py (a program of this repo) with the kit's print: whole numbers, lists; the parts marked HAND are typed by hand.
import Derived.Test.YtihanpdfnpgnfaaPAllx0
import Derived.Test.YtihanpdfnpgnfaaSBuild
namespace Go.Proofs.Ytihanpdfnpgnfaa.PAll
open Go.RowKit Go.Proofs.YtihanpdfnpgnfaaW.PrintWords Go.Proofs.YtihanpdfnpgnfaaW.PrintLast Go.Proofs.YtihanpdfnpgnfaaW.PrintMore
attribute [local go_sem] max2_int min2_int max_two min_two max_three min_three max_four min_four   -- for this text's walks alone
set_option linter.unusedVariables false
set_option linter.unusedSimpArgs false

-- HAND: typed by hand
/-! ### stats_Build: function 7 -/
/-- How many values and words, the buckets of the sorted values, the hashes of the words. -/
def stats_Build.f (l0 : List Int) (l1 : List ByteArray) (a2 : Int) : Option (Int × List S36 × List S41) := if l0.length ≤ 1048576 ∧ l1.length ≤ 1048576 ∧ (l1.all fun s => decide (s.size ≤ 1048576)) = true then some ((l0.length : Int) + (l1.length : Int), H.bks l0 a2, H.ents (l1.map H.hashOf)) else none
theorem stats_Build.calls (A0 : Option Addr) (c0 : Nat) (l0 : List Int) (A1 : Option Addr) (c1 : Nat) (l1 : List ByteArray) (a2 : Int) (r1 : Int) (r2 : List S36) (r3 : List S41) (w : World) (hr0 : Kd.C (Kd.int .i64) w A0 l0.length l0) (hc0 : l0.length ≤ c0) (hr1 : Kd.C Kd.string w A1 l1.length l1) (hc1 : l1.length ≤ c1) (h : stats_Build.f l0 l1 a2 = some (r1, r2, r3)) :
    Calls Try.prog 7 #[.slice A0 l0.length c0, .slice A1 l1.length c1, .int .i64 a2] w fun e w' => ∃ v0_ v1_ : Value, e = .returned (.agg #[.int .i64 r1, v0_, v1_]) ∧ Kd.R k36 36 w' w.heap.size (fun _ => True) v0_ r2 ∧ Kd.R k41 41 w' w.heap.size (fun _ => True) v1_ r3 ∧ Below w.heap.size w w' := by
  unfold stats_Build.f at h
  split at h
  · next hb =>
    obtain ⟨h1, h2, h3⟩ := hb
    simp only [Option.some.injEq, Prod.mk.injEq] at h
    obtain ⟨rfl, rfl, rfl⟩ := h
    refine (H.build_calls A0 c0 l0 A1 c1 l1 a2 w hr0 hr1 h1 h2 (fun s hs => by simpa using List.all_eq_true.1 h3 s hs)).mono ?_
    rintro e w' ⟨v, v', he, hR1, hR2, hB⟩
    exact ⟨v, v', he, hR1, hR2, hB⟩
  · exact absurd h (by simp)

end Go.Proofs.Ytihanpdfnpgnfaa.PAll

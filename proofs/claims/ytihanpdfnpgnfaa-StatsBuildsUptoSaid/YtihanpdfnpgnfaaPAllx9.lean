-- Printed by hp.py (a program of this repo) with the kit's print: whole numbers, lists; the parts marked HAND are typed by hand.
import Derived.Test.YtihanpdfnpgnfaaPAllx0
import Derived.Test.YtihanpdfnpgnfaaSMul
namespace Go.Proofs.Ytihanpdfnpgnfaa.PAll
open Go.RowKit Go.Proofs.YtihanpdfnpgnfaaW.PrintWords Go.Proofs.YtihanpdfnpgnfaaW.PrintLast Go.Proofs.YtihanpdfnpgnfaaW.PrintMore
attribute [local go_sem] max2_int min2_int max_two min_two max_three min_three max_four min_four   -- for this text's walks alone
set_option linter.unusedVariables false
set_option linter.unusedSimpArgs false

-- HAND: typed by hand
/-! ### num_Mul: function 39 -/
/-- The product of two numbers that are not negative, or the error. -/
def num_Mul.f (a0 a1 : Int) : Option (Int × Int) := if 0 ≤ a0 then (if a0 < 9223372036854775808 then (if 0 ≤ a1 then (if a1 < 9223372036854775808 then some (H.mulS a0 a1) else none) else none) else none) else none
theorem num_Mul.calls (a0 : Int) (a1 : Int) (r1 : Int) (r2 : Int) (w : World) (h : num_Mul.f a0 a1 = some (r1, r2)) :
    Calls Try.prog 39 #[.int .i64 a0, .int .i64 a1] w fun e w' => e = .returned (.tuple #[.int .i64 r1, .int .i64 r2]) ∧ Drawn0 w w' := by
  unfold num_Mul.f at h
  split at h
  · split at h
    · split at h
      · split at h
        · have h' := Option.some.inj h
          refine (H.mul_calls a0 a1 (by assumption) (by assumption) (by assumption) (by assumption) w).mono ?_
          rintro e w' ⟨rfl, rfl⟩
          rw [h']
          exact ⟨rfl, Drawn0.refl _⟩
        · exact absurd h (by simp)
      · exact absurd h (by simp)
    · exact absurd h (by simp)
  · exact absurd h (by simp)

end Go.Proofs.Ytihanpdfnpgnfaa.PAll

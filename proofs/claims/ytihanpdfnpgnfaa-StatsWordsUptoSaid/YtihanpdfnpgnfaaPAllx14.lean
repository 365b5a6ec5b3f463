-- Printed by hp.py (a program of this repo) with the kit's print: whole numbers, lists; the parts marked HAND are typed by hand.
import Derived.Test.YtihanpdfnpgnfaaPAllx0
import Derived.Test.YtihanpdfnpgnfaaSWord
namespace Go.Proofs.Ytihanpdfnpgnfaa.PAll
open Go.RowKit Go.Proofs.YtihanpdfnpgnfaaW.PrintWords Go.Proofs.YtihanpdfnpgnfaaW.PrintLast Go.Proofs.YtihanpdfnpgnfaaW.PrintMore
attribute [local go_sem] max2_int min2_int max_two min_two max_three min_three max_four min_four   -- for this text's walks alone
set_option linter.unusedVariables false
set_option linter.unusedSimpArgs false

-- HAND: typed by hand
/-! ### stats_Word: function 16 -/
/-- The count of the first entry that has the word's hash. -/
def stats_Word.f (a0_0 : Int) (l0_1 : List (S36)) (l0_2 : List (S41)) (a1 : ByteArray) : Option (Int) := if l0_2.length ≤ 17592186044416 ∧ a1.size ≤ 1048576 then some (H.wordS l0_2 (H.hashOf a1)) else none
theorem stats_Word.calls (a0_0 : Int) (A0_1 : Option Addr) (c0_1 : Nat) (l0_1 : List (S36)) (A0_2 : Option Addr) (c0_2 : Nat) (l0_2 : List (S41)) (a1 : ByteArray) (r : Int) (w : World) (hr0_1 : Kd.C k36 w A0_1 l0_1.length l0_1) (hc0_1 : l0_1.length ≤ c0_1) (hr0_2 : Kd.C k41 w A0_2 l0_2.length l0_2) (hc0_2 : l0_2.length ≤ c0_2) (h : stats_Word.f a0_0 l0_1 l0_2 a1 = some r) :
    Calls Try.prog 16 #[.agg #[.int .i64 a0_0, .slice A0_1 l0_1.length c0_1, .slice A0_2 l0_2.length c0_2], .string a1] w fun e w' => e = .returned (.int .i64 r) ∧ Below w.heap.size w w' := by
  unfold stats_Word.f at h
  split at h
  · next hb =>
    obtain rfl := Option.some.inj h
    exact H.word_calls a0_0 A0_1 l0_1.length c0_1 A0_2 c0_2 l0_2 a1 w hr0_2 hc0_2 hb.2 hb.1
  · exact absurd h (by simp)

end Go.Proofs.Ytihanpdfnpgnfaa.PAll

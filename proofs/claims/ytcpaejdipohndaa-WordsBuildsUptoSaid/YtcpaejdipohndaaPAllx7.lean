-- Printed by hp.py (a program of this repo) with the kit's print: whole numbers, lists; the parts marked HAND are typed by hand.
import Derived.Test.YtcpaejdipohndaaPAllx0
import Derived.Test.YtcpaejdipohndaaVCmp5
namespace Go.Proofs.Ytcpaejdipohndaa.PAll
open Go.RowKit Go.Proofs.YtcpaejdipohndaaW.PrintWords Go.Proofs.YtcpaejdipohndaaW.PrintLast Go.Proofs.YtcpaejdipohndaaW.PrintMore
attribute [local go_sem] max2_int min2_int max_two min_two max_three min_three max_four min_four   -- for this text's walks alone
set_option linter.unusedVariables false
set_option linter.unusedSimpArgs false

-- HAND: typed by hand
/-! ### lodestarref05_Compare: function 20 -/
/-- The order of values. -/
def lodestarref05_Compare.f (a0_0 : Int) (a0_1 : Int) (a0_2 : ByteArray) (a1_0 : Int) (a1_1 : Int) (a1_2 : ByteArray) : Option (Int) := some (V.cmpV (⟨a0_0, a0_1, a0_2⟩ : S24) (⟨a1_0, a1_1, a1_2⟩ : S24))
theorem lodestarref05_Compare.calls (a0_0 : Int) (a0_1 : Int) (a0_2 : ByteArray) (a1_0 : Int) (a1_1 : Int) (a1_2 : ByteArray) (r : Int) (w : World) (h : lodestarref05_Compare.f a0_0 a0_1 a0_2 a1_0 a1_1 a1_2 = some r) :
    Calls Try.prog 20 #[.agg #[.int .i64 a0_0, .int .i64 a0_1, .string a0_2], .agg #[.int .i64 a1_0, .int .i64 a1_1, .string a1_2]] w fun e w' => e = .returned (.int .i64 r) ∧ Below w.heap.size w w' := by
  obtain rfl := Option.some.inj h
  exact V.cmp5_calls ⟨a0_0, a0_1, a0_2⟩ ⟨a1_0, a1_1, a1_2⟩ w

end Go.Proofs.Ytcpaejdipohndaa.PAll

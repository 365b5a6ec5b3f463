-- Printed by hp.py (a program of this repo) with the kit's print: whole numbers, lists; the parts marked HAND are typed by hand.
import Derived.Test.YthaofmbjkdikbaaDoorPAllx0
import Derived.Test.YthaofmbjkdikbaaDoorFPw
namespace Go.Proofs.YthaofmbjkdikbaaDoor.PAll
open Go.RowKit Go.Proofs.YthaofmbjkdikbaaDoorW.PrintWords Go.Proofs.YthaofmbjkdikbaaDoorW.PrintLast Go.Proofs.YthaofmbjkdikbaaDoorW.PrintMore
attribute [local go_sem] max2_int min2_int max_two min_two max_three min_three max_four min_four   -- for this text's walks alone
set_option linter.unusedVariables false
set_option linter.unusedSimpArgs false

-- HAND: typed by hand
/-! ### filter_Passes: function 8 -/
/-- Does a point pass a condition? (All lists within small.) -/
def filter_Passes.f (a0_0 : Int) (a0_1 : ByteArray) (a0_2 : Int) (a0_3 : Int) (a0_4 : ByteArray) (a0_5 : Int) (a0_6 : Int) (l0_7 : List S26) (a1_0 : Int) (l1_1 : List S92) (l1_2 : List S62) : Option (Bool) := if F.smallB ⟨a0_0, a0_1, ⟨a0_2, a0_3, a0_4⟩, a0_5, a0_6, l0_7⟩ = true then (if l1_2.length ≤ 1048576 then some (F.passC l1_2 ⟨a0_0, a0_1, ⟨a0_2, a0_3, a0_4⟩, a0_5, a0_6, l0_7⟩) else none) else none
theorem filter_Passes.calls (a0_0 : Int) (a0_1 : ByteArray) (a0_2 : Int) (a0_3 : Int) (a0_4 : ByteArray) (a0_5 : Int) (a0_6 : Int) (A0_7 : Option Addr) (c0_7 : Nat) (l0_7 : List S26) (a1_0 : Int) (A1_1 : Option Addr) (c1_1 : Nat) (l1_1 : List S92) (A1_2 : Option Addr) (c1_2 : Nat) (l1_2 : List S62) (r : Bool) (w : World) (hr0_7 : Kd.C k26 w A0_7 l0_7.length l0_7) (hc0_7 : l0_7.length ≤ c0_7) (hr1_1 : Kd.C k92 w A1_1 l1_1.length l1_1) (hc1_1 : l1_1.length ≤ c1_1) (hr1_2 : Kd.C k62 w A1_2 l1_2.length l1_2) (hc1_2 : l1_2.length ≤ c1_2) (h : filter_Passes.f a0_0 a0_1 a0_2 a0_3 a0_4 a0_5 a0_6 l0_7 a1_0 l1_1 l1_2 = some r) :
    Calls Tryd.prog 8 #[.agg #[.int .i64 a0_0, .string a0_1, .int .i64 a0_2, .int .i64 a0_3, .string a0_4, .int .i64 a0_5, .int .i64 a0_6, .slice A0_7 l0_7.length c0_7], .agg #[.int .i64 a1_0, .slice A1_1 l1_1.length c1_1, .slice A1_2 l1_2.length c1_2]] w fun e w' => e = .returned (.bool r) ∧ Below w.heap.size w w' := by
  unfold filter_Passes.f at h
  split at h
  · next hs =>
    split at h
    · next hb =>
      obtain rfl := Option.some.inj h
      exact F.passes_calls ⟨a0_0, a0_1, ⟨a0_2, a0_3, a0_4⟩, a0_5, a0_6, l0_7⟩ A0_7 c0_7 a1_0 A1_1 c1_1 l1_1 A1_2 c1_2 l1_2 w (F.smallB_iff.1 hs) hr0_7 hc0_7 hr1_2 hc1_2 hb
    · exact absurd h (by simp)
  · exact absurd h (by simp)

end Go.Proofs.YthaofmbjkdikbaaDoor.PAll

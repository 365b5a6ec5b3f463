-- Printed by hp.py (a program of this repo) with the kit's print: whole numbers, lists; the parts marked HAND are typed by hand.
import Derived.Test.YthaofmbjkdikbaaDoorPAllx0
import Derived.Test.YthaofmbjkdikbaaDoorHSome
namespace Go.Proofs.YthaofmbjkdikbaaDoor.PAll
open Go.RowKit Go.Proofs.YthaofmbjkdikbaaDoorW.PrintWords Go.Proofs.YthaofmbjkdikbaaDoorW.PrintLast Go.Proofs.YthaofmbjkdikbaaDoorW.PrintMore
attribute [local go_sem] max2_int min2_int max_two min_two max_three min_three max_four min_four   -- for this text's walks alone
set_option linter.unusedVariables false
set_option linter.unusedSimpArgs false

-- HAND: typed by hand
/-! ### ids_some: function 43 -/
/-- What stands in lists in one of some ways. -/
def ids_some.f (l0 l1 l2 : List Int) : Option (List Int) := if l0.length + l1.length < 17592186044416 then some (H.someL l0 l1 l2) else none
theorem ids_some.calls (A0 : Option Addr) (c0 : Nat) (l0 : List Int) (A1 : Option Addr) (c1 : Nat) (l1 : List Int) (A2 : Option Addr) (c2 : Nat) (l2 : List Int) (r : List Int) (w : World) (hr0 : Kd.C (Kd.int .i64) w A0 l0.length l0) (hc0 : l0.length ≤ c0) (hr1 : Kd.C (Kd.int .i64) w A1 l1.length l1) (hc1 : l1.length ≤ c1) (hr2 : Kd.C (Kd.int .i64) w A2 l2.length l2) (hc2 : l2.length ≤ c2) (h : ids_some.f l0 l1 l2 = some r) :
    Calls Tryd.prog 43 #[.slice A0 l0.length c0, .slice A1 l1.length c1, .slice A2 l2.length c2] w fun e w' => ∃ v0_ : Value, e = .returned (v0_) ∧ Kd.R (Kd.int .i64) 3 w' w.heap.size (fun _ => True) v0_ r ∧ Below w.heap.size w w' := by
  unfold ids_some.f at h
  split at h
  · next hb =>
    obtain rfl := Option.some.inj h
    exact H.some_calls A0 c0 l0 A1 c1 l1 A2 c2 l2 w hr0 hr1 hr2 hb
  · exact absurd h (by simp)

end Go.Proofs.YthaofmbjkdikbaaDoor.PAll

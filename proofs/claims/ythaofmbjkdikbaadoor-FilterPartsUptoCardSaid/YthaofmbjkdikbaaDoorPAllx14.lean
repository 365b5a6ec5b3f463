-- Printed by hp.py (a program of this repo) with the kit's print: whole numbers, lists; the parts marked HAND are typed by hand.
import Derived.Test.YthaofmbjkdikbaaDoorPAllx0
import Derived.Test.YthaofmbjkdikbaaDoorHPut
namespace Go.Proofs.YthaofmbjkdikbaaDoor.PAll
open Go.RowKit Go.Proofs.YthaofmbjkdikbaaDoorW.PrintWords Go.Proofs.YthaofmbjkdikbaaDoorW.PrintLast Go.Proofs.YthaofmbjkdikbaaDoorW.PrintMore
attribute [local go_sem] max2_int min2_int max_two min_two max_three min_three max_four min_four   -- for this text's walks alone
set_option linter.unusedVariables false
set_option linter.unusedSimpArgs false

-- HAND: typed by hand
/-! ### lodestarref08_Put: function 34 -/
/-- A number more in a rising list. -/
def lodestarref08_Put.f (l0 : List Int) (a1 : Int) : Option (List Int) := if l0.Pairwise (· < ·) then if l0.length < 17592186044416 then some (H.insL l0 a1) else none else none
theorem lodestarref08_Put.calls (P0_ : Nat → Prop) (u9000_ : Value) (l0 : List Int) (a1 : Int) (r : List Int) (w0 w : World) (hB : Below w0.heap.size w0 w) (ho0 : Kd.R (Kd.int .i64) 3 w w0.heap.size P0_ u9000_ l0) (h : lodestarref08_Put.f l0 a1 = some r) :
    Calls Tryd.prog 34 #[u9000_, .int .i64 a1] w fun e w' => ∃ v0_ : Value, e = .returned (v0_) ∧ Kd.R (Kd.int .i64) 3 w' w0.heap.size (fun k_ => (P0_ k_ ∨ w.heap.size ≤ k_)) v0_ r ∧ Below w0.heap.size w0 w' ∧ Kept w w' (fun k_ => P0_ k_) := by
  unfold lodestarref08_Put.f at h
  split at h
  · next hs =>
    split at h
    · next hb =>
      obtain rfl := Option.some.inj h
      exact H.put_calls P0_ u9000_ l0 a1 w0 w hB ho0 hs hb
    · exact absurd h (by simp)
  · exact absurd h (by simp)

end Go.Proofs.YthaofmbjkdikbaaDoor.PAll

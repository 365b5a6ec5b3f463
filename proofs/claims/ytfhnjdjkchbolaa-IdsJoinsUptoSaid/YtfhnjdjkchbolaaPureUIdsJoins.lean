/- The law IdsJoins, where what it reads is of bulk at most 1048576: what two lists of any numbers have together, in both, and in the first alone. -/
import Derived.Test.YtfhnjdjkchbolaaPB
import Derived.Test.YtfhnjdjkchbolaaPUIdsJoins
namespace Go.Proofs.Ytfhnjdjkchbolaa.PureU
open Go.RowKit Go.Proofs.Ytfhnjdjkchbolaa.PAll Go.Proofs.YtfhnjdjkchbolaaW.PrintWords Go.Proofs.YtfhnjdjkchbolaaW.PrintLast
set_option linter.unusedVariables false

theorem joins_l0 (a b : List Int) (ha : a.length ≤ 1048576) (hb : b.length ≤ 1048576) (d : Nat) : ∀ (i : Nat) (u : List Int), u.length - i = d → i ≤ u.length → u.length ≤ 2097152 → Ev (fun k => lodestarlaw08_IdsJoins.l0 k a b a b u true (i : Int)) true := by
  induction d with
  | zero =>
    intro i u hd hi hu
    refine Ev.step (f := ?f1) ?h1 ?g1
    case h1 => intro k; simp only [lodestarlaw08_IdsJoins.l0]; rfl
    simp only [if_neg (show ¬ (i : Int) < (u.length : Int) by omega), if_true]
    refine (same_self a (by omega)).bind ?_
    simp only [if_true]
    refine (same_self b (by omega)).bind ?_
    simp only [if_true]
    rw [uni_some a b (by omega)]
    simp only [Option.bind_some]
    refine (runion_ev a b (by omega)).bind ?_
    refine (same_self _ (by have := H.someL_le a b [1, 2, 3]; omega)).bind ?_
    simp only [if_true, lodestarlaw08_sure.f, Option.bind_some]
    exact Ev.now _
  | succ d ih =>
    intro i u hd hi hu
    refine Ev.step (f := ?f2) ?h2 ?g2
    case h2 => intro k; simp only [lodestarlaw08_IdsJoins.l0]; rfl
    simp only [if_pos (show (i : Int) < (u.length : Int) by omega), if_pos (show (0 : Int) ≤ (i : Int) by omega)]
    have e1 : wrap64 ((i : Int) + 1) = ((i + 1 : Nat) : Int) := by rw [wrap_in (by omega) (by omega)]; omega
    simp only [e1]
    exact ih (i + 1) _ (by simp; omega) (by simp; omega) (by simpa using hu)

theorem IdsJoins : lodestarlaw08_IdsJoinsU.Pure := by
  intro a b _ _ _ _ _ _ ha hb
  refine Ev.rounds ?_
  have le := fun x y l => H.someL_le x y l
  unfold lodestarlaw08_IdsJoins.f
  rw [twin_some a (by omega), twin_some b (by omega)]
  simp only [Option.bind_some]
  rw [uni_some a b (by omega), int_some a b (by omega), dif_some a b (by omega)]
  simp only [Option.bind_some]
  refine (runion_ev a b (by omega)).bind ?_
  refine (same_self _ (by have := le a b [1, 2, 3]; omega)).bind ?_
  simp only [if_true]
  refine (rinter_ev a b (by omega)).bind ?_
  refine (same_self _ (by have := le a b [3]; omega)).bind ?_
  simp only [if_true]
  refine (rdiff_ev a b (by omega)).bind ?_
  refine (same_self _ (by have := le a b [1]; omega)).bind ?_
  refine Ev.step (f := ?f3) ?h3 ?g3
  case h3 => intro k; simp only [lodestarlaw08_IdsJoins.j0]; rfl
  exact joins_l0 a b ha hb _ 0 _ rfl (by omega) (by have := le a b [1, 2, 3]; omega)
end Go.Proofs.Ytfhnjdjkchbolaa.PureU

/- StatsJoins, plainly: And and Or are the reference's, and lie between the bounds that the law names. The list's length times eight is within the model's reach. -/
import Derived.Test.YtihanpdfnpgnfaaTJ
import Derived.Test.YtihanpdfnpgnfaaPAllx12
namespace Go.Proofs.Ytihanpdfnpgnfaa.Pure
open Go.RowKit Go.Proofs.Ytihanpdfnpgnfaa.PAll Go.Proofs.YtihanpdfnpgnfaaW.PrintWords Go.Proofs.YtihanpdfnpgnfaaW.PrintLast Go.Proofs.YtihanpdfnpgnfaaW.PrintMore
set_option linter.unusedVariables false

theorem joins_l0 (t : Int) (l : List Int) (hl : l.length ≤ 17592186044416) (d : Nat) : ∀ (k i : Nat), i ≤ l.length → l.length - i = d → d + 60 < k → lodestarlaw15_StatsJoins.l0 k t l (andS t l) (orS t l) (i : Int) = some true := by
  induction d with
  | zero =>
    intro k i hi hd hk
    obtain ⟨k, rfl⟩ : ∃ m, k = m + 1 := ⟨k - 1, by omega⟩
    simp only [lodestarlaw15_StatsJoins.l0]
    rw [if_neg (by omega), awake_eq (by omega)]
    rfl
  | succ d ih =>
    intro k i hi hd hk
    obtain ⟨k, rfl⟩ : ∃ m, k = m + 1 := ⟨k - 1, by omega⟩
    have hw : wrap64 ((i : Int) + 1) = ((i + 1 : Nat) : Int) := by unfold wrap64; omega
    have hm : rd l (i : Int) ∈ l := by
      have hi' : i < l.length := by omega
      have : rd l (i : Int) = l[i] := by unfold rd; simp [hi']
      rw [this]; exact List.getElem_mem hi'
    have ec : mx 0 (mn (rd l i) (mx t 0)) = clampS (max 0 t) (rd l i) := by rw [mx_max, mn_min, mx_max, Int.max_comm t 0]; rfl
    have h1 := (and_b (t := t) l).2.2 _ hm
    have h2 := (or_b (t := t) l).2.2 _ hm
    simp only [lodestarlaw15_StatsJoins.l0]
    rw [if_pos (by omega), if_pos (by omega), ec, if_neg (by omega), if_neg (by omega), hw]
    exact ih k (i + 1) (by omega) (by omega) (by omega)

theorem StatsJoins : lodestarlaw15_StatsJoins.Pure := by
  intro t l hwt _ hl _
  have ht : t < 9223372036854775808 := by
    have h : (decide (IntKind.i64.min ≤ t) && decide (t ≤ IntKind.i64.max)) = true := hwt
    rw [Bool.and_eq_true] at h
    have h2 : t ≤ 9223372036854775807 := of_decide_eq_true h.2
    omega
  have hl' : l.length < 17592186044416 := by omega
  refine ⟨4 * l.length + 200, ?_⟩
  have ha := and_b (t := t) l
  have ho := or_b (t := t) l
  have em : mx t 0 = max 0 t := by rw [mx_max, Int.max_comm]
  unfold lodestarlaw15_StatsJoins.f
  rw [and_eq ht l (by omega) (by omega), or_eq ht l hl' (by omega), rand_eq ht l (by omega) (by omega), ror_eq ht l hl' (by omega)]
  simp only [Option.bind_some]
  rw [if_pos trivial, if_pos trivial, if_neg (by omega), if_neg (by omega), em, if_neg (by omega)]
  obtain ⟨k, hk⟩ : ∃ k, 4 * l.length + 200 = k + 1 := ⟨4 * l.length + 199, by omega⟩
  rw [hk]
  simp only [lodestarlaw15_StatsJoins.j0]
  rw [if_neg (by simp; omega)]
  exact joins_l0 t l (by omega) l.length k 0 (by omega) (by omega) (by omega)
end Go.Proofs.Ytihanpdfnpgnfaa.Pure

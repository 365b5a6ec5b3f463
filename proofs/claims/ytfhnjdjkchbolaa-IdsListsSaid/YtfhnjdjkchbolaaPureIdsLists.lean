/- The law IdsLists: which lists are lists of ids, the list of any numbers, and whether a number stands in it: for every list and number, as the document's answer has it. No condition but the form's own reach. -/
import Derived.Test.YtfhnjdjkchbolaaPB
import Derived.Test.YtfhnjdjkchbolaaPAllx12
import Derived.Test.YtfhnjdjkchbolaaPAllx5
namespace Go.Proofs.Ytfhnjdjkchbolaa.PAll
open Go.RowKit Go.Proofs.YtfhnjdjkchbolaaW.PrintWords Go.Proofs.YtfhnjdjkchbolaaW.PrintLast Go.Proofs.YtfhnjdjkchbolaaW.PrintMore

theorem isIds_set (l : List Int) : H.IsIds (H.setL l) ↔ ∀ x ∈ l, 1 ≤ x ∧ x ≤ 4503599627370496 := by
  constructor
  · intro h x hx; exact h.2 x (H.mem_setL.2 hx)
  · intro h; exact ⟨H.setL_rising l, fun x hx => h x (H.mem_setL.1 hx)⟩
theorem of_ev (l : List Int) (hl : l.length < 17592186044416) : Ev (fun k => ids_Of.f k l) (if H.IsIds (H.setL l) then (H.setL l, 0) else ([], 80)) := by
  have hs : ids_set.f l = some (H.setL l) := by unfold ids_set.f; rw [if_pos (by omega)]
  have hle := H.setL_le l
  unfold ids_Of.f
  rw [hs]
  refine (Ev.now (H.setL l)).bind (f := fun k t106 => (ids_Check.f k t106).bind fun t109 => (if t109 = 0 then (some (t106, 0)) else (some (([] : List Int), 80)))) ((check_ev (H.setL l) (by omega)).bind ?_)
  by_cases c : H.IsIds (H.setL l)
  · simp only [c, if_true]; exact Ev.now _
  · simp only [c, if_false]; exact Ev.now _
theorem rof_l0 (l : List Int) (hl : l.length < 17592186044416) (d : Nat) : ∀ (k i : Nat), l.length - i = d → i ≤ l.length → d + l.length + 1 < k → ((∀ j, i ≤ j → j < l.length → 1 ≤ l[j]?.getD 0 ∧ l[j]?.getD 0 ≤ 4503599627370496) → lodestarref08_Of.l0 k l (i : Int) = some (H.setL l, 0)) ∧ (¬ (∀ j, i ≤ j → j < l.length → 1 ≤ l[j]?.getD 0 ∧ l[j]?.getD 0 ≤ 4503599627370496) → lodestarref08_Of.l0 k l (i : Int) = some ([], 80)) := by
  induction d with
  | zero =>
    intro k i hd hi hk
    obtain ⟨m, rfl, _⟩ := round (d := 0) (show 0 < k by omega)
    refine ⟨fun _ => ?_, fun h => absurd (fun j h1 h2 => by omega) h⟩
    simp only [lodestarref08_Of.l0]
    rw [if_neg (by omega)]
    have := set_l0 l (by omega) l.length m 0 [] (by omega) (by omega) (by omega) (by simp) (by simpa using hl)
    rw [List.drop_zero, fold_set] at this
    have e : lodestarref08_Set.f m l = some (H.setL l) := this
    rw [e]
    rfl
  | succ d ih =>
    intro k i hd hi hk
    obtain ⟨m, rfl, hm⟩ := round hk
    obtain ⟨h1, h2⟩ := ih m (i + 1) (by omega) (by omega) (by omega)
    have e1 : wrap64 ((i : Int) + 1) = ((i + 1 : Nat) : Int) := by rw [wrap_in (by omega) (by omega)]; omega
    simp only [lodestarref08_Of.l0, rd_nat]
    rw [if_pos (by omega), if_pos (by omega), e1]
    by_cases c1 : l[i]?.getD 0 < 1
    · rw [if_pos c1]; exact ⟨fun h => by have := h i (Nat.le_refl _) (by omega); omega, fun _ => rfl⟩
    · rw [if_neg c1]
      by_cases c2 : l[i]?.getD 0 > 4503599627370496
      · rw [if_pos c2]; exact ⟨fun h => by have := h i (Nat.le_refl _) (by omega); omega, fun _ => rfl⟩
      · rw [if_neg c2]
        refine ⟨fun h => h1 (fun j h3 h4 => h j (by omega) h4), fun h => h2 (fun h' => h (fun j h3 h4 => ?_))⟩
        rcases Nat.eq_or_lt_of_le h3 with h5 | h5
        · subst h5; omega
        · exact h' j h5 h4
theorem rof_ev (l : List Int) (hl : l.length < 17592186044416) : Ev (fun k => lodestarref08_Of.f k l) (if H.IsIds (H.setL l) then (H.setL l, 0) else ([], 80)) := by
  refine ⟨l.length + l.length + 2, fun k hk => ?_⟩
  obtain ⟨h1, h2⟩ := rof_l0 l hl l.length k 0 (by omega) (by omega) (by omega)
  have key : (∀ j, 0 ≤ j → j < l.length → 1 ≤ l[j]?.getD 0 ∧ l[j]?.getD 0 ≤ 4503599627370496) ↔ H.IsIds (H.setL l) := by
    rw [isIds_set]
    constructor
    · intro h x hx
      obtain ⟨j, hj, rfl⟩ := List.mem_iff_getElem.1 hx
      simpa [hj] using h j (by omega) hj
    · intro h j _ hj
      simpa [hj] using h l[j] (List.getElem_mem hj)
  split
  · next c => exact h1 (key.2 c)
  · next c => exact h2 (fun h => c (key.1 h))
theorem twin_some (l : List Int) (hl : l.length < 17592186044416) : lodestarlaw08_twin.f l = some l := by
  unfold lodestarlaw08_twin.f
  rw [if_pos (by simpa using hl)]
  simp
end Go.Proofs.Ytfhnjdjkchbolaa.PAll
namespace Go.Proofs.Ytfhnjdjkchbolaa.Pure
open Go.RowKit Go.Proofs.Ytfhnjdjkchbolaa.PAll Go.Proofs.YtfhnjdjkchbolaaW.PrintWords Go.Proofs.YtfhnjdjkchbolaaW.PrintLast

theorem IdsLists : lodestarlaw08_IdsLists.Pure := by
  intro l id _ hl _ _
  refine Ev.rounds ?_
  unfold lodestarlaw08_IdsLists.f
  rw [twin_some l (by omega)]
  simp only [Option.bind_some]
  refine (of_ev l (by omega)).bind ((rof_ev l (by omega)).bind ((check_ev l (by omega)).bind ((rcheck_ev l (by omega)).bind ?_)))
  simp only [if_true]
  have hle := H.setL_le l
  have h1 : ((if H.IsIds (H.setL l) then (H.setL l, (0 : Int)) else ([], 80)).1).length ≤ 17592186044416 := by
    split
    · show (H.setL l).length ≤ _; omega
    · show ([] : List Int).length ≤ _; simp
  refine (same_self _ h1).bind ?_
  simp only [if_true]
  refine (has_ev l id (by omega)).bind ((rhas_ev l id (by omega)).bind ?_)
  simp only [beq_self_eq_true, if_true]
  refine (same_self l (by omega)).bind ?_
  simp only [if_true, lodestarlaw08_sure.f, Option.bind_some]
  exact Ev.now _
end Go.Proofs.Ytfhnjdjkchbolaa.Pure

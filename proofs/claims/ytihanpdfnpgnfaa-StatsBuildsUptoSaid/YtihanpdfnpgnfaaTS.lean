/- The reference's comparison of counts with themselves says yes. No program and no memory. -/
import Derived.Test.YtihanpdfnpgnfaaPAllx5
namespace Go.Proofs.Ytihanpdfnpgnfaa.Pure
open Go.RowKit Go.Proofs.Ytihanpdfnpgnfaa.PAll Go.Proofs.YtihanpdfnpgnfaaW.PrintWords Go.Proofs.YtihanpdfnpgnfaaW.PrintLast Go.Proofs.YtihanpdfnpgnfaaW.PrintMore
set_option linter.unusedVariables false
theorem ww {i : Nat} (h : i < 9223372036854775807) : wrap64 ((i : Int) + 1) = ((i + 1 : Nat) : Int) := by unfold wrap64; omega
theorem same_l1 (c : Int) (bs : List S36) (es : List S41) (he : es.length ≤ 1048576) (d : Nat) : ∀ (k i : Nat), i ≤ es.length → es.length - i = d → d < k → lodestarref15_Same.l1 k (i : Int) c bs es c bs es = some true := by
  induction d with
  | zero =>
    intro k i hi hd hk
    obtain ⟨k, rfl⟩ : ∃ m, k = m + 1 := ⟨k - 1, by omega⟩
    simp only [lodestarref15_Same.l1]
    rw [if_neg (by omega)]
  | succ d ih =>
    intro k i hi hd hk
    obtain ⟨k, rfl⟩ : ∃ m, k = m + 1 := ⟨k - 1, by omega⟩
    simp only [lodestarref15_Same.l1]
    rw [if_pos (by omega), if_pos (by omega), if_pos (by omega), if_neg (by simp), ww (by omega)]
    exact ih k (i + 1) (by omega) (by omega) (by omega)
theorem same_l0 (c : Int) (bs : List S36) (es : List S41) (hb : bs.length ≤ 1048576) (he : es.length ≤ 1048576) (d : Nat) : ∀ (k i : Nat), i ≤ bs.length → bs.length - i = d → d + es.length + 1 < k → lodestarref15_Same.l0 k (i : Int) c bs es c bs es = some true := by
  induction d with
  | zero =>
    intro k i hi hd hk
    obtain ⟨k, rfl⟩ : ∃ m, k = m + 1 := ⟨k - 1, by omega⟩
    simp only [lodestarref15_Same.l0]
    rw [if_neg (by omega)]
    exact same_l1 c bs es he es.length k 0 (by omega) (by omega) (by omega)
  | succ d ih =>
    intro k i hi hd hk
    obtain ⟨k, rfl⟩ : ∃ m, k = m + 1 := ⟨k - 1, by omega⟩
    simp only [lodestarref15_Same.l0]
    rw [if_pos (by omega), if_pos (by omega), if_pos (by omega), if_neg (by simp), ww (by omega)]
    exact ih k (i + 1) (by omega) (by omega) (by omega)
theorem same_ex (c : Int) (bs : List S36) (es : List S41) (hb : bs.length ≤ 1048576) (he : es.length ≤ 1048576) : ∃ k, lodestarref15_Same.f k c bs es c bs es = some true := by
  refine ⟨bs.length + es.length + 3, ?_⟩
  unfold lodestarref15_Same.f
  rw [if_pos rfl, if_pos rfl, show bs.length + es.length + 3 = (bs.length + es.length + 2) + 1 by omega]
  simp only [lodestarref15_Same.j0]
  rw [if_neg (by simp)]
  exact same_l0 c bs es hb he bs.length _ 0 (by omega) (by omega) (by omega)
end Go.Proofs.Ytihanpdfnpgnfaa.Pure

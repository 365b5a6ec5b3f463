/- The plain law of IdsBack, under the bound. -/
import Derived.Test.YtfhnjdjkchbolaaPE
import Derived.Test.YtfhnjdjkchbolaaPUIdsBack
namespace Go.Proofs.Ytfhnjdjkchbolaa.PureU
open Go.RowKit Go.Proofs.Ytfhnjdjkchbolaa.PAll Go.Proofs.YtfhnjdjkchbolaaW.PrintWords Go.Proofs.YtfhnjdjkchbolaaW.PrintLast Go.Proofs.YtfhnjdjkchbolaaW.PrintMore

theorem back_j1 (a : ByteArray) (h : a.size ≤ 1048576) : Ev (fun k => lodestarlaw08_IdsBack.j1 k a) true := by
  refine Ev.step (f := ?f1) ?h1 ?g1; case h1 => intro k; simp only [lodestarlaw08_IdsBack.j1]; rfl
  refine Ev.bind (dec_ev a (by omega)) ?_
  obtain ⟨⟨v, e⟩, hv⟩ : ∃ q, q = H.decB (H.nums8 a) := ⟨_, rfl⟩
  rw [← hv]
  rcases H.decB_back (H.nums8_small a) hv.symm with ⟨rfl, hi, hl, hb⟩ | ⟨rfl, rfl⟩
  · simp only [if_true]
    refine Ev.bind (enc_ev v (by omega) (fun _ => hl)) ?_
    simp only [if_pos hi, if_true]
    have e1 : strOfNums (H.le4 v.length ++ H.encL 0 v) = a := by rw [← hb, H.strOf_nums8]
    simp only [e1, if_true]
    refine Ev.bind (check_ev v (by omega)) ?_
    simp only [if_pos hi, if_true]
    exact Ev.now _
  · simp only [if_neg (show ¬ (80 : Int) = 0 by omega), List.length_nil]
    simp only [Int.natCast_zero, if_true]
    exact Ev.now _
theorem setL_short (l : List Int) : (H.setL l).length ≤ l.length := by
  have h := H.setL_le l
  exact h
theorem IdsBack : PAll.lodestarlaw08_IdsBackU.Pure := by
  intro l a h1 h2 h3 h4 u1 u2
  refine Ev.rounds (g := fun k => lodestarlaw08_IdsBack.f k l a) ?_
  have hs : (H.setL l).length ≤ 1048576 := Nat.le_trans (setL_short l) u1
  have hof : Ev (fun k => ids_Of.f k l) (if H.IsIds (H.setL l) then (H.setL l, 0) else ([], 80)) := by
    unfold ids_Of.f ids_set.f
    rw [if_pos (by omega)]
    simp only [Option.bind_some]
    refine Ev.bind (check_ev _ (by omega)) ?_
    by_cases c : H.IsIds (H.setL l)
    · simp only [if_pos c, if_true]; exact Ev.now _
    · simp only [if_neg c, if_neg (show ¬ (80 : Int) = 0 by omega)]; exact Ev.now _
  unfold lodestarlaw08_IdsBack.f
  refine Ev.bind hof ?_
  obtain ⟨v, hv⟩ : ∃ v, v = H.setL l := ⟨_, rfl⟩
  rw [← hv] at hs ⊢
  by_cases c : H.IsIds v
  · simp only [if_pos c, if_true]
    refine Ev.bind (enc_ev v (by omega) (fun _ => by omega)) ?_
    simp only [if_pos c, if_true]
    have hlen : (H.encL 0 v).length ≤ 8 * v.length := by have := H.encL_le c v.length (Nat.le_refl _); rwa [List.take_length] at this
    have hsm : H.Small (H.le4 v.length ++ H.encL 0 v) := fun b hb => by
      rcases List.mem_append.1 hb with hb | hb
      · exact H.le4_small _ b hb
      · exact H.encL_byte v 0 b hb
    have hsz : (strOfNums (H.le4 v.length ++ H.encL 0 v)).size ≤ 8388612 := by rw [strOfNums_size, List.length_append]; have : (H.le4 v.length).length = 4 := rfl; omega
    have hn : H.nums8 (strOfNums (H.le4 v.length ++ H.encL 0 v)) = H.le4 v.length ++ H.encL 0 v := H.nums8_of hsm
    obtain ⟨s, hsd⟩ : ∃ s, s = strOfNums (H.le4 v.length ++ H.encL 0 v) := ⟨_, rfl⟩
    rw [← hsd] at hsz hn ⊢
    refine Ev.bind (dec_ev s (by omega)) ?_
    have d1 := H.decB_enc c (by omega) []
    rw [List.append_nil, if_pos rfl] at d1
    simp only [hn, d1, if_true]
    refine Ev.bind (same_of rfl (by omega)) ?_
    have hn2 : H.nums8 (s ++ (⟨#[1]⟩ : ByteArray)) = H.le4 v.length ++ H.encL 0 v ++ [1] := by rw [H.nums8_append, hn]; rfl
    have d2 := H.decB_enc c (by omega) [1]
    rw [if_neg (List.cons_ne_nil _ _)] at d2
    refine Ev.step (f := ?f2) ?h2 ?g2; case h2 => intro k; simp only [lodestarlaw08_IdsBack.j0, Bool.not_true, if_neg Bool.false_ne_true]; rfl
    simp only [if_pos (show s.size + 1 ≤ 9223372036854775807 by omega)]
    refine Ev.bind (dec_ev (s ++ (⟨#[1]⟩ : ByteArray)) (by rw [ByteArray.size_append]; have : (⟨#[1]⟩ : ByteArray).size = 1 := rfl; omega)) ?_
    simp only [hn2, d2, if_neg (show ¬ (80 : Int) = 0 by omega)]
    exact back_j1 a u2
  · simp only [if_neg c, if_neg (show ¬ (80 : Int) = 0 by omega)]
    exact back_j1 a u2
end Go.Proofs.Ytfhnjdjkchbolaa.PureU

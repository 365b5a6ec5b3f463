/- Words: lodestarref14.Values: what the printed function gives, and that it is the values of the points. -/
import Derived.Test.YtcpaejdipohndaaVRefLaw
import Derived.Test.YtcpaejdipohndaaPAllx11
namespace Go.Proofs.Ytcpaejdipohndaa.V
open Go.RowKit Go.Sort Go.Shelf Go.Lib Go.Maps Go.Proofs.YtcpaejdipohndaaW.PrintWords Go.Proofs.Ytcpaejdipohndaa.PAll Go.Proofs.Ytcpaejdipohndaa.R Go.Proofs.Ytcpaejdipohndaa.H
set_option linter.unusedVariables false
theorem up_v0 {k k' : Nat} (hk : k ≤ k') {x0 x3 x4 r} (h : lodestarref14_Values.l0 k x0 x3 x4 = some r) : lodestarref14_Values.l0 k' x0 x3 x4 = some r := by
  induction hk with
  | refl => exact h
  | step _ ih => exact (lodestarref14_Values.mono_l _).1 _ _ _ _ ih
theorem vals_ev1 (l : List Rw) (i : Nat) (hi : i < l.length) (hn : l.length ≤ 1048576) (o : List Va) (ho : o.length ≤ 1048576) (r : List Va) (k0 : Nat) (h0 : lodestarref14_Values.l0 k0 l (insV o l[i].f1) ((i + 1 : Nat) : Int) = some r) :
    ∀ (d a : Nat), a + d = o.length → (∀ q (hq : q < o.length), q < a → cmpV o[q] l[i].f1 < 0) → ∃ k, lodestarref14_Values.l1 k l o i a = some r
  | 0, a, h, hp => by
    refine ⟨k0 + 1, ?_⟩
    have ha : a = o.length := by omega
    subst ha
    have ep : rd_T63 l (i : Int) = l[i] := by unfold rd_T63; simp [hi]
    rw [insV_end (fun q hq => hp q hq hq)] at h0
    rw [lodestarref14_Values.l1, if_neg (by omega), if_pos (by omega), if_pos (by omega), Option.bind_some, Int.toNat_natCast, List.take_length, if_pos (by simp; omega), Option.bind_some, List.nil_append, if_pos (by omega), if_pos (by omega), if_pos (by omega), Option.bind_some, Option.bind_some, List.drop_length, if_pos (by simp; omega), ep, wr_next (by omega), List.append_nil]
    exact h0
  | d + 1, a, h, hp => by
    have ha : a < o.length := by omega
    have ep : rd_T63 l (i : Int) = l[i] := by unfold rd_T63; simp [hi]
    have eo : rd_T24 o (a : Int) = o[a] := by unfold rd_T24; simp [ha]
    have ec : lodestarref05_Compare.f o[a].f0 o[a].f1 o[a].f2 l[i].f1.f0 l[i].f1.f1 l[i].f1.f2 = some (cmpV o[a] l[i].f1) := rfl
    by_cases hq : cmpV o[a] l[i].f1 < 0
    · obtain ⟨k, hk⟩ := vals_ev1 l i hi hn o ho r k0 h0 d (a + 1) (by omega) (fun q hq' hqa => by
        rcases Nat.lt_succ_iff_lt_or_eq.1 hqa with h1 | h1
        · exact hp q hq' h1
        · subst h1; exact hq)
      refine ⟨k + 1, ?_⟩
      rw [lodestarref14_Values.l1, if_pos (by omega), if_pos (by omega), if_pos (by omega), if_pos (by omega), ep, eo, ec, Option.bind_some, if_pos hq, wr_next (by omega), hk]
    · refine ⟨k0 + 1, ?_⟩
      by_cases hz : cmpV o[a] l[i].f1 = 0
      · rw [insV_old ha hp hz] at h0
        rw [lodestarref14_Values.l1, if_pos (by omega), if_pos (by omega), if_pos (by omega), if_pos (by omega), ep, eo, ec, Option.bind_some, if_neg hq, Option.bind_some, if_pos hz, wr_next (by omega)]
        exact h0
      · rw [insV_new ha hp hq hz] at h0
        rw [lodestarref14_Values.l1, if_pos (by omega), if_pos (by omega), if_pos (by omega), if_pos (by omega), ep, eo, ec, Option.bind_some, if_neg hq, Option.bind_some, if_neg hz, if_pos (by omega), Option.bind_some, Int.toNat_natCast, if_pos (by simp; omega), Option.bind_some, List.nil_append, if_pos (by simp; omega), Option.bind_some, Option.bind_some, if_pos (by simp; omega), wr_next (by omega)]
        exact h0
theorem vals_ev0 (l : List Rw) (hn : l.length ≤ 1048576) : ∀ (d i : Nat) (o : List Va), i + d = l.length → o.length ≤ i → ∃ k, lodestarref14_Values.l0 k l o i = some ((l.drop i).foldl (fun o r => if r.f2 then insV o r.f1 else o) o)
  | 0, i, o, h, _ => ⟨1, by
    have hi : i = l.length := by omega
    subst hi
    rw [lodestarref14_Values.l0, if_neg (by omega), List.drop_length]; rfl⟩
  | d + 1, i, o, h, ho => by
    have hi : i < l.length := by omega
    have ep : rd_T63 l (i : Int) = l[i] := by unfold rd_T63; simp [hi]
    by_cases hf : l[i].f2 = true
    · obtain ⟨k2, h2⟩ := vals_ev0 l hn d (i + 1) (insV o l[i].f1) (by omega) (by have := insV_le l[i].f1 o; omega)
      obtain ⟨k3, h3⟩ := vals_ev1 l i hi hn o (by omega) _ k2 h2 _ 0 (Nat.zero_add _) (fun q _ h => by omega)
      refine ⟨k3 + 1, ?_⟩
      rw [lodestarref14_Values.l0, if_pos (by omega), if_pos (by omega), ep, if_pos hf, List.drop_eq_getElem_cons hi, List.foldl_cons, if_pos hf]
      exact h3
    · obtain ⟨k2, h2⟩ := vals_ev0 l hn d (i + 1) o (by omega) (by omega)
      refine ⟨k2 + 1, ?_⟩
      rw [lodestarref14_Values.l0, if_pos (by omega), if_pos (by omega), ep, if_neg hf, wr_next (by omega), List.drop_eq_getElem_cons hi, List.foldl_cons, if_neg hf]
      exact h2
theorem refValues_calls (A : Option Addr) (c : Nat) (l : List Rw) (w : World) (hC : Kd.C k63 w A l.length l) (hc : l.length ≤ c) (hl : l.length ≤ 1048576) :
    Calls Try.prog 17 #[.slice A l.length c] w fun e w' => ∃ v, e = .returned v ∧ Kd.R k24 24 w' w.heap.size (fun _ => True) v (valsR l) ∧ Below w.heap.size w w' := by
  obtain ⟨k, hk⟩ := vals_ev0 l hl _ 0 [] (Nat.zero_add _) (Nat.le_refl _)
  exact lodestarref14_Values.calls k A c l (valsR l) w hC hc hk
end Go.Proofs.Ytcpaejdipohndaa.V

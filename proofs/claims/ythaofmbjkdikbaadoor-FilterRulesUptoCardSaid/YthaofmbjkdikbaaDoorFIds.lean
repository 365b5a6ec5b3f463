/- Filter: the printed filter.Ids comes to the union of the ids that pass. -/
import Derived.Test.YthaofmbjkdikbaaDoorFRef
import Derived.Test.YthaofmbjkdikbaaDoorHUnion
import Derived.Test.YthaofmbjkdikbaaDoorPAllx9
namespace Go.Proofs.YthaofmbjkdikbaaDoor.F
open Go.RowKit Go.Lib Go.Sort Go.Shelf Go.Proofs.YthaofmbjkdikbaaDoorW.PrintWords Go.Proofs.YthaofmbjkdikbaaDoor.PAll Go.Proofs.YthaofmbjkdikbaaDoor.V
set_option linter.unusedVariables false
abbrev Pt := S30
/-- The ids of the points that pass, in their order. -/
def idsOf (c : Cn) (l : List Pt) : List Int := (l.filter fun p => passC p.f2 c).map (·.f0)
theorem idsOf_cons (c : Cn) (p : Pt) (l : List Pt) : idsOf c (p :: l) = if passC p.f2 c = true then p.f0 :: idsOf c l else idsOf c l := by
  unfold idsOf
  rw [List.filter_cons]
  split <;> rfl
theorem idsOf_le (c : Cn) (l : List Pt) : (idsOf c l).length ≤ l.length := by
  unfold idsOf
  rw [List.length_map]
  exact List.length_filter_le _ _
def unionL (l : List Int) : List Int := H.someL l [] [1, 2, 3]
theorem mem_unionL {l : List Int} {x : Int} : x ∈ unionL l ↔ x ∈ l := by unfold unionL; rw [H.mem_union]; simp
theorem union_rising (l : List Int) : (unionL l).Pairwise (· < ·) := H.someL_rising _ _ _
theorem unionL_le (l : List Int) : (unionL l).length ≤ l.length := H.someL_le l [] [1, 2, 3]
theorem pf_eq {c : Cn} (hs : Small c) (p : Pt) (hp : p.f2.length ≤ 1048576) : filter_Passes.f c.f0 c.f1 c.f2.f0 c.f2.f1 c.f2.f2 c.f3 c.f4 c.f5 p.f0 p.f1 p.f2 = some (passC p.f2 c) := by
  obtain ⟨c0, c1, ⟨v0, v1, v2⟩, c3, c4, c5⟩ := c
  unfold filter_Passes.f
  rw [if_pos (smallB_of hs), if_pos hp]
theorem un_eq (l : List Int) (h : l.length ≤ 1048576) : ids_Union.f l [] = some (unionL l) := by
  unfold ids_Union.f ids_some.f
  rw [if_pos (by simp; omega)]
  rfl
theorem rdP {l : List Pt} {i : Nat} (hi : i < l.length) : rd_T30 l (i : Int) = l[i] := by unfold rd_T30; simp [hi]
theorem fids_ev {c : Cn} (hs : Small c) (l : List Pt) (hl : l.length ≤ 1048576) (hf : ∀ p ∈ l, p.f2.length ≤ 1048576) : ∀ (d i : Nat) (out : List Int), i + d = l.length → out.length + d ≤ 1048576 →
    ∃ k, filter_Ids.l0 k out l (l.length : Int) (i : Int) c.f0 c.f1 c.f2.f0 c.f2.f1 c.f2.f2 c.f3 c.f4 c.f5 = some (unionL (out ++ idsOf c (l.drop i)))
  | 0, i, out, h, ho => ⟨1, by
    have hi : i = l.length := by omega
    subst hi
    rw [filter_Ids.l0, if_neg (by omega), un_eq _ (by omega), List.drop_length]
    show some (unionL out) = some (unionL (out ++ []))
    rw [List.append_nil]⟩
  | d + 1, i, out, h, ho => by
    have hi : i < l.length := by omega
    have hp := pf_eq hs l[i] (hf _ (List.getElem_mem hi))
    cases hq : passC l[i].f2 c with
    | true =>
      obtain ⟨k, hk⟩ := fids_ev hs l hl hf d (i + 1) (out ++ [l[i].f0]) (by omega) (by simp; omega)
      refine ⟨k + 1, ?_⟩
      rw [filter_Ids.l0, if_pos (by omega), if_pos (by omega), if_pos (by omega), rdP hi, hp, hq, Option.bind_some, if_pos rfl, if_pos (by omega), wr_next (by omega), hk, List.drop_eq_getElem_cons hi, idsOf_cons, if_pos hq, List.append_assoc]
      rfl
    | false =>
      obtain ⟨k, hk⟩ := fids_ev hs l hl hf d (i + 1) out (by omega) (by omega)
      refine ⟨k + 1, ?_⟩
      rw [filter_Ids.l0, if_pos (by omega), if_pos (by omega), if_pos (by omega), rdP hi, hp, hq, Option.bind_some, if_neg (by simp), wr_next (by omega), hk, List.drop_eq_getElem_cons hi, idsOf_cons, if_neg (by rw [hq]; simp)]
theorem fids {c : Cn} (hs : Small c) (l : List Pt) (hl : l.length ≤ 1048576) (hf : ∀ p ∈ l, p.f2.length ≤ 1048576) :
    ∃ k, filter_Ids.f k c.f0 c.f1 c.f2.f0 c.f2.f1 c.f2.f2 c.f3 c.f4 c.f5 l = some (unionL (idsOf c l)) := by
  obtain ⟨k, hk⟩ := fids_ev hs l hl hf l.length 0 [] (by omega) (by simp; omega)
  exact ⟨k, by rw [filter_Ids.f]; simpa using hk⟩
/-- filter.Ids. -/
theorem ids_calls {c : Cn} (hs : Small c) (l : List Pt) (hl : l.length ≤ 1048576) (hf : ∀ p ∈ l, p.f2.length ≤ 1048576) (A : Option Addr) (n : Nat) (A1 : Option Addr) (c1 : Nat) (w : World) (hr : Kd.C k26 w A c.f5.length c.f5) (hn : c.f5.length ≤ n) (hr1 : Kd.C k30 w A1 l.length l) (hc1 : l.length ≤ c1) :
    Calls Tryd.prog 17 #[.agg #[.int .i64 c.f0, .string c.f1, .int .i64 c.f2.f0, .int .i64 c.f2.f1, .string c.f2.f2, .int .i64 c.f3, .int .i64 c.f4, .slice A c.f5.length n], .slice A1 l.length c1] w fun e w' => ∃ A3 c3, e = .returned (.slice A3 (unionL (idsOf c l)).length c3) ∧ (unionL (idsOf c l)).length ≤ c3 ∧ Kd.C (Kd.int .i64) w' A3 (unionL (idsOf c l)).length (unionL (idsOf c l)) ∧ Below w.heap.size w w' := by
  obtain ⟨k, hk⟩ := fids hs l hl hf
  refine (filter_Ids.calls k _ _ _ _ _ _ _ A n _ A1 c1 l _ w hr hn hr1 hc1 hk).mono ?_
  rintro e w' ⟨v, rfl, hR, hB⟩
  obtain ⟨A3, c3, rfl, h1, h2⟩ := Kd.R_reads hR
  exact ⟨A3, c3, rfl, h1, h2, hB⟩
end Go.Proofs.YthaofmbjkdikbaaDoor.F

/- Ranges: lists that a call made, as rows known whole; what writes below them leave. -/
import Derived.Test.YtdbdkcmbenokbaaGRefC
namespace Go.Proofs.Ytdbdkcmbenokbaa.G
open Go.RowKit Go.Lib Go.Shelf Go.Proofs.YtdbdkcmbenokbaaW.PrintWords Go.Proofs.YtdbdkcmbenokbaaW.PrintMore Go.Proofs.Ytdbdkcmbenokbaa.PAll
open Go.Sort hiding rd
set_option linter.unusedVariables false

theorem rowV_of_R {base : Nat} {ok : Nat → Prop} {W : World} {v : Value} {E : List SE} (h : Kd.R k32 32 W base ok v E) : RowV W base v (E.map toP) := by
  obtain ⟨_, inner, ho, hr⟩ := h
  have : inner = flatE (E.map toP) := by
    clear ho
    apply List.ext_getElem?
    intro j
    have hl : inner.length = E.length * 2 := hr.1
    by_cases hj : j < E.length * 2
    · have h2 : j / 2 < E.length := by omega
      have h3 := hr.2 (j / 2) E[j / 2] (List.getElem?_eq_getElem h2)
      have h4 := k32_openM h3
      rw [flatE_get _ _ (by simpa using hj)]
      have h5 : ((inner.drop (j / 2 * k32.sz)).take k32.sz)[j % 2]? = inner[j]? := by
        have e2 : k32.sz = 2 := rfl
        rw [e2, List.getElem?_take_of_lt (by omega), List.getElem?_drop]
        congr 1
        omega
      rw [← h5, h4]
      have h6 : (E.map toP).toArray[j / 2]! = toP E[j / 2] := by rw [getElem!_pos _ _ (by simpa using h2)]; simp
      rw [h6]
      rfl
    · rw [List.getElem?_eq_none (by omega), List.getElem?_eq_none (by rw [flatE_len]; simp; omega)]
  subst this
  exact rowV_of_own (by rw [List.length_map]; exact ho)
theorem RowV.grown {W W' : World} {base : Nat} {v : Value} {l : List En} (h : RowV W base v l) {row : Option Nat} (hg : W.grownBy W' row) (hr : ∀ k, row = some k → k < base) : RowV W' base v l := by
  rcases h with h | ⟨g, cap, g1, g2, g3⟩
  · exact .inl h
  · exact .inr ⟨g, cap, g1, g2, g3.block (hg.block _ g3.lt (fun e => by have := hr _ e.symm; omega))⟩
def RbV (w : World) (L : List En) (e : Ending) (w' : World) : Prop := ∃ A c, e = .returned (.slice A L.length c) ∧ L.length ≤ c ∧ RowV w' w.heap.size (.slice A L.length c) L ∧ Below w.heap.size w w'
theorem refBuildV_calls (A0 : Option Addr) (c0 : Nat) (l0 : List SE) (w : World) (h0 : Kd.C k32 w A0 l0.length l0) (hc0 : l0.length ≤ c0) (hl : l0.length ≤ 1048576) :
    Calls Try.prog 15 #[.slice A0 l0.length c0] w (RbV w (norm (l0.map toP))) := by
  obtain ⟨k, hk⟩ := build_ev l0 hl
  refine (lodestarref13_Build.calls k A0 c0 l0 _ w h0 hc0 hk).mono ?_
  rintro e w' ⟨v, rfl, hR, hB⟩
  have hv := rowV_of_R hR
  rw [map_toP_ofP] at hv
  obtain ⟨A, c, rfl, hc⟩ := hv.slice
  exact ⟨A, c, rfl, hc, hv, hB⟩
theorem write_grown (W : World) (g i : Nat) (x y : Value) : W.grownBy ((W.setCell ⟨g, i * 2, none⟩ x).setCell ⟨g, i * 2 + 1, none⟩ y) (some g) := grown_trans (grown_set _ _ _ _) (grown_set _ _ _ _)
/-- What the law's first statement lays: a copy of the list, with one more behind it. -/
structure Given (W : World) (l : List En) (g cap : Nat) (w : World) : Prop where
  D : RowD w g cap (l ++ [(-77, 0)]).toArray
  lo : W.heap.size ≤ g
  B : Below W.heap.size W w
theorem Given.read {W w : World} {l : List En} {g cap : Nat} (h : Given W l g cap w) : RdE w (some ⟨g, 0, none⟩) l := by
  have := h.D.part 0 l.length
  rw [Nat.zero_mul, List.drop_zero, Nat.sub_zero, List.take_left] at this
  exact this
theorem Given.last {W w : World} {l : List En} {g cap : Nat} (h : Given W l g cap w) : w.cell? ⟨g, l.length * 2, none⟩ = some (.int .i64 (-77)) := by
  have := (h.D.cell (j := l.length) (by simp)).1.1
  rw [this, getElem!_pos _ _ (by simp)]
  simp
theorem Given.cap {W w : World} {l : List En} {g cap : Nat} (h : Given W l g cap w) : l.length + 1 ≤ cap := by
  obtain ⟨_, _, _, h, _⟩ := h.D
  simpa using h
end Go.Proofs.Ytdbdkcmbenokbaa.G

/- Ranges: the reference's Build, Between and Count at lists that calls have made. -/
import Derived.Test.YtdbdkcmbenokbaaGRef
namespace Go.Proofs.Ytdbdkcmbenokbaa.G
open Go.RowKit Go.Lib Go.Shelf Go.Proofs.YtdbdkcmbenokbaaW.PrintWords Go.Proofs.YtdbdkcmbenokbaaW.PrintMore Go.Proofs.Ytdbdkcmbenokbaa.PAll
open Go.Sort hiding rd
set_option linter.unusedVariables false

def RbOut (w : World) (L : List En) (e : Ending) (w' : World) : Prop := ∃ A c, e = .returned (.slice A L.length c) ∧ L.length ≤ c ∧ RdE w' A L ∧ Below w.heap.size w w'
theorem refBuild_calls (A0 : Option Addr) (c0 : Nat) (l0 : List SE) (w : World) (h0 : Kd.C k32 w A0 l0.length l0) (hc0 : l0.length ≤ c0) (hl : l0.length ≤ 1048576) :
    Calls Try.prog 15 #[.slice A0 l0.length c0] w (RbOut w (norm (l0.map toP))) := by
  obtain ⟨k, hk⟩ := build_ev l0 hl
  refine (lodestarref13_Build.calls k A0 c0 l0 _ w h0 hc0 hk).mono ?_
  rintro e w' ⟨v, rfl, hR, hB⟩
  obtain ⟨A, c, rfl, hc, hC⟩ := Kd.R_reads hR
  have hr := C_read hC _ (map_toP_ofP _)
  rw [List.length_map] at hc ⊢
  exact ⟨A, c, rfl, hc, hr, hB⟩
theorem refBetween_calls (A : Option Addr) (c : Nat) (L : List En) (lo hi : Int) (w : World) (h0 : RdE w A L) (hc : L.length ≤ c) (hl : L.length ≤ 1048576) :
    Calls Try.prog 18 #[.slice A L.length c, .int .i64 lo, .int .i64 hi] w (BtOut w (rangeI L lo hi)) := by
  obtain ⟨k, hk⟩ := between_ev L lo hi hl
  have e : (L.map ofP).length = L.length := by simp
  have := lodestarref13_Between.calls k A c (L.map ofP) lo hi _ w (by rw [e]; exact C_of_rdE h0 (by omega)) (by rw [e]; exact hc) hk
  rw [e] at this
  exact this
theorem refCount_calls (A : Option Addr) (c : Nat) (L : List En) (lo hi : Int) (w : World) (h0 : RdE w A L) (hc : L.length ≤ c) (hl : L.length ≤ 1048576) :
    Calls Try.prog 19 #[.slice A L.length c, .int .i64 lo, .int .i64 hi] w (VOut w (.int .i64 (rangeE L lo hi).length)) := by
  obtain ⟨k, hk⟩ := count_ev L lo hi hl
  have e : (L.map ofP).length = L.length := by simp
  have := lodestarref13_Count.calls k A c (L.map ofP) lo hi _ w (by rw [e]; exact C_of_rdE h0 (by omega)) (by rw [e]; exact hc) hk
  rw [e] at this
  exact this.mono fun e w' ⟨he, hd⟩ => ⟨he, by first | exact hd | exact hd.below⟩
/-- A store of an entry into a list of the call's own. -/
theorem RowV.set {W : World} {base g c n : Nat} {l : List En} (h : RowV W base (.slice (some ⟨g, 0, none⟩) n c) l) {i : Nat} (hi : i < l.length) (x y : Int) :
    RowV ((W.setCell ⟨g, i * 2, none⟩ (.int .i64 x)).setCell ⟨g, i * 2 + 1, none⟩ (.int .i64 y)) base (.slice (some ⟨g, 0, none⟩) n c) (l.set i (x, y)) := by
  rcases h with ⟨rfl, h⟩ | ⟨g', cap, h1, h2, h3⟩
  · cases h
  · cases h1
    refine .inr ⟨g, c, by rw [List.length_set], h2, ?_⟩
    have := h3.set (k := i) (by simpa using hi) x y
    rwa [List.setIfInBounds_toArray] at this
theorem RowV.at {W : World} {base n c : Nat} {A : Option Addr} {l : List En} (h : RowV W base (.slice A n c) l) {i : Nat} (hi : i < l.length) :
    ∃ g cells, A = some ⟨g, 0, none⟩ ∧ n = l.length ∧ base ≤ g ∧ W.heap[g]? = some (.cells cells 32 (0, 0)) ∧ (W.cell? ⟨g, i * 2, none⟩ = some (.int .i64 l.toArray[i]!.1) ∧ W.cell? ⟨g, i * 2 + 1, none⟩ = some (.int .i64 l.toArray[i]!.2)) ∧ (W.frozen? ⟨g, i * 2, none⟩ = false ∧ W.frozen? ⟨g, i * 2 + 1, none⟩ = false) ∧ ∃ c2, W.shape? g = some (32, c2) := by
  rcases h with ⟨rfl, h⟩ | ⟨g', cap, h1, h2, h3⟩
  · exact absurd hi (by simp)
  · cases h1
    obtain ⟨k0, k1, k2⟩ := h3.cell (j := i) (by simpa using hi)
    obtain ⟨cur, hb, _⟩ := h3
    exact ⟨g', cur, rfl, rfl, h2, hb, k0, k1, _, k2⟩
theorem unionL_nil : unionL [] = [] := List.eq_nil_of_length_eq_zero (by have := unionL_le []; simpa using this)
end Go.Proofs.Ytdbdkcmbenokbaa.G

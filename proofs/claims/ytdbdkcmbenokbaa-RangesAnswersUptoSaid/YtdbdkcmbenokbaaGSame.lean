/- Ranges: the reference's Same at lists of entries that calls have made. -/
import Derived.Test.YtdbdkcmbenokbaaGKinds
namespace Go.Proofs.Ytdbdkcmbenokbaa.G
open Go.RowKit Go.Lib Go.Shelf Go.Proofs.YtdbdkcmbenokbaaW.PrintWords Go.Proofs.YtdbdkcmbenokbaaW.PrintMore Go.Proofs.Ytdbdkcmbenokbaa.PAll
open Go.Sort hiding rd
set_option linter.unusedVariables false

theorem same_calls (A0 : Option Addr) (c0 : Nat) (l0 : List S32) (A1 : Option Addr) (c1 : Nat) (l1 : List S32) (w : World) (h0 : Kd.C k32 w A0 l0.length l0) (hc0 : l0.length ≤ c0) (h1 : Kd.C k32 w A1 l1.length l1) (hc1 : l1.length ≤ c1) (hl : l0.length ≤ 17592186044416) :
    Calls Try.prog 12 #[.slice A0 l0.length c0, .slice A1 l1.length c1] w fun e w' => e = .returned (.bool (decide (l0.map toP = l1.map toP))) ∧ Below w.heap.size w w' := by
  obtain ⟨k, hk⟩ := same_ev l0 l1 hl
  exact (lodestarref13_Same.calls k A0 c0 l0 A1 c1 l1 _ w h0 hc0 h1 hc1 hk).mono fun e w' ⟨he, hd⟩ => ⟨he, hd.below⟩
/-- Two lists of the same entries. -/
theorem sameV_calls (A0 : Option Addr) (c0 : Nat) (l : List En) (A1 : Option Addr) (c1 : Nat) (w : World) (h0 : RdE w A0 l) (hc0 : l.length ≤ c0) (h1 : RdE w A1 l) (hc1 : l.length ≤ c1) (hl : l.length ≤ 1073741824) :
    Calls Try.prog 12 #[.slice A0 l.length c0, .slice A1 l.length c1] w fun e w' => e = .returned (.bool true) ∧ Below w.heap.size w w' := by
  have e : (l.map ofP).length = l.length := by simp
  have := same_calls A0 c0 (l.map ofP) A1 c1 (l.map ofP) w (by rw [e]; exact C_of_rdE h0 hl) (by rw [e]; exact hc0) (by rw [e]; exact C_of_rdE h1 hl) (by rw [e]; exact hc1) (by rw [e]; omega)
  rw [e] at this
  simpa using this
theorem rowV_read {W : World} {base : Nat} {v : Value} {l : List En} (h : RowV W base v l) : ∃ A c, v = .slice A l.length c ∧ l.length ≤ c ∧ RdE W A l := by
  obtain ⟨A, c, rfl, hc⟩ := h.slice
  exact ⟨A, c, rfl, hc, RdE.of_row h⟩
theorem C_read {W : World} {A : Option Addr} {xs : List S32} (h : Kd.C k32 W A xs.length xs) (l : List En) (e : xs.map toP = l) : RdE W A l := by subst e; exact rdE_of_C h
theorem k_KM {W : World} {base : Nat} {ok : Nat → Prop} {x : S32} {cs : List Value} {W0 : World} (h : k32.K W0 x cs) : k32.M W base ok x cs := by
  obtain rfl := k32_open h
  exact k32_mkM _ _ _ x
end Go.Proofs.Ytdbdkcmbenokbaa.G

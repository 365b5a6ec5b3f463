/- Ranges: what comes in as a list of entries, in the words of the contracts. -/
import Derived.Test.YtdbdkcmbenokbaaGAwake
import Derived.Test.YtdbdkcmbenokbaaRKinds
namespace Go.Proofs.Ytdbdkcmbenokbaa.G
open Go.RowKit Go.Lib Go.Shelf Go.Proofs.YtdbdkcmbenokbaaW.PrintWords Go.Proofs.YtdbdkcmbenokbaaW.PrintMore Go.Proofs.Ytdbdkcmbenokbaa.PAll
open Go.Sort hiding rd
set_option linter.unusedVariables false

theorem rdE_of_C {W : World} {A : Option Addr} {l : List S32} (h : Kd.C k32 W A l.length l) : RdE W A (l.map toP) := fun hn => by
  obtain ⟨_, _, h3⟩ := h
  obtain ⟨ad, rfl, hc⟩ := h3 (by simpa using hn)
  refine ⟨ad, rfl, fun j u hu => ?_⟩
  have hj : j < (l.map toP).length * 2 := by
    have := (List.getElem?_eq_some_iff.1 hu).1
    rwa [flatE_len] at this
  have hj2 : j / 2 < l.length := by simp at hj; omega
  obtain ⟨c, hcl, hK, hcc⟩ := hc (j / 2) l[j / 2] (List.getElem?_eq_getElem hj2)
  obtain rfl := k32_open hK
  have h5 := hcc (j % 2) u (by
    rw [flatE_get _ _ hj] at hu
    have e : (l.map toP).toArray[j / 2]! = toP l[j / 2] := by rw [getElem!_pos _ _ (by simpa using hj2)]; simp
    rw [e] at hu
    exact hu)
  have e : j / 2 * k32.sz + j % 2 = j := by show j / 2 * 2 + j % 2 = j; omega
  rwa [e] at h5
theorem C_of_rdE {W : World} {A : Option Addr} {l : List En} (h : RdE W A l) (hl : l.length ≤ 1073741824) : Kd.C k32 W A l.length (l.map ofP) := by
  refine ⟨by simp, by have : maxLen = 9223372036854775807 := rfl; omega, fun hn => ?_⟩
  obtain ⟨ad, rfl, hc⟩ := h hn
  refine ⟨ad, rfl, fun j p hp => ?_⟩
  have hj : j < l.length := by simpa using (List.getElem?_eq_some_iff.1 hp).1
  have e : p = ofP l.toArray[j]! := by
    rw [List.getElem?_map, List.getElem?_eq_getElem hj] at hp
    rw [getElem!_pos _ _ (by simpa using hj)]
    simpa using hp.symm
  subst e
  obtain ⟨f0, f1⟩ := flatE_at l j hj
  refine ⟨_, rfl, k32_mk W _, fun t u hu => ?_⟩
  have ht : t = 0 ∨ t = 1 := by
    have := (List.getElem?_eq_some_iff.1 hu).1
    simp at this; omega
  rcases ht with rfl | rfl
  · exact hc _ u (f0.trans hu)
  · exact hc _ u (f1.trans hu)
def EnG (e : S32) : Prop := R.I64r e.f0 ∧ R.I64r e.f1
theorem range_all (l : List En) (lo hi : Int) (h : ∀ e ∈ l, lo ≤ e.1 ∧ e.1 ≤ hi) : rangeE l lo hi = l := by
  unfold rangeE
  rw [List.filter_eq_self]
  intro e he
  have := h e he
  simp [inR]; omega
theorem rangeI_count (l : List En) (low high : Int) : (rangeI l low high).length ≤ (rangeE l low high).length := by
  have h1 := unionL_le ((rangeE l low high).map (·.2))
  rwa [List.length_map] at h1
theorem C_mapR {W : World} {base c : Nat} {A : Option Addr} {l : List En} (h : RowV W base (.slice A l.length c) l) (hl : l.length ≤ 1073741824) : Kd.C k32 W A (l.map ofP).length (l.map ofP) := by
  have := C_of_rdE (RdE.of_row h) hl
  rwa [← List.length_map (f := ofP)] at this
end Go.Proofs.Ytdbdkcmbenokbaa.G

/- Filter: conditions and points that come in, opened. -/
import Derived.Test.YthaofmbjkdikbaaDoorRKinds
import Derived.Test.YthaofmbjkdikbaaDoorFPass
namespace Go.Proofs.YthaofmbjkdikbaaDoor.F
open Go.RowKit Go.WideShapes Go.ChangeShapes Go.Proofs.YthaofmbjkdikbaaDoorW.PrintWords Go.Proofs.YthaofmbjkdikbaaDoor.PAll Go.Proofs.YthaofmbjkdikbaaDoor.R Go.Proofs.YthaofmbjkdikbaaDoor.V
set_option linter.unusedVariables false
/-- As Opn, for readings of at most N steps. -/
def OpnN (N : Nat) {α : Type} (t : TypeId) (d : Kd α) (G : α → Prop) : Prop :=
  ∀ {H : Type} (enc : TypeId × Value → H) (w : World) (base : Nat) (spare : Nat → Bool) (held : Bool) (fuel : Nat) (cs : List Value) (x : DataW H × List MemPlace), fuel ≤ N →
    DataW.trod enc Tryd.prog w base spare held fuel t cs = some x → Rows.uptoBulk x.1 ≤ 1048576 → ∃ y, d.K w y cs ∧ G y
theorem OpnN.of {N : Nat} {α : Type} {t : TypeId} {d : Kd α} {G : α → Prop} (h : Opn t d G) : OpnN N t d G := fun enc w base spare held fuel cs x _ hx hb => h enc w base spare held fuel cs x hx hb
def OpnFN (N : Nat) {β : Type} (fs : List Field) (off : Nat) (d : Kd β) (G : β → Prop) : Prop :=
  ∀ {H : Type} (enc : TypeId × Value → H) (w : World) (base : Nat) (spare : Nat → Bool) (held : Bool) (m : Nat) (cs : List Value) (xs : List (DataW H × List MemPlace)), m ≤ N →
    xs.length = fs.length → (∀ (i : Nat) (f : Field), fs[i]? = some f → DataW.trod enc Tryd.prog w base spare held m f.type ((cs.drop f.offset).take (Tryd.prog.cellsOf f.type)) = xs[i]?) → Rows.uptoBulkAll (xs.map (·.1)) ≤ 1048576 → ∃ y, d.K w y ((cs.drop off).take d.sz) ∧ G y
theorem opnN_slice {N : Nat} {α : Type} {t e : TypeId} {d : Kd α} {G : α → Prop} (ht : Tryd.prog.underlying t = some (.slice e)) (hc : Tryd.prog.cellsOf e = d.sz) (he : OpnN N e d G) : OpnN N t (Kd.slice e d) (AllG G) := by
  intro H enc w base spare held fuel cs x hN h hb
  rcases DataW.trod_slice ht h with ⟨rfl, rfl⟩ | ⟨a, len, cap, elems, rest, n, hn, rfl, rfl, hba, hl, hm, hlen, hel, hsp, hns⟩
  · exact ⟨[], ⟨none, 0, rfl, Nat.le_refl _, ⟨rfl, by simp, fun h => absurd h (by simp)⟩⟩, by simp, by simp⟩
  · simp only [Rows.uptoBulk] at hb
    have hbe : ∀ y ∈ elems, Rows.uptoBulk y.1 ≤ 1048576 := fun y hy => by
      have h1 := bulk_mem (List.mem_map.2 ⟨y, hy, rfl⟩ : y.1 ∈ elems.map (·.1))
      have h2 : 0 < elems.length := List.length_pos_of_mem hy
      simp only [List.length_map] at h1
      omega
    have hle : elems.length ≤ 1048576 := by have := bulk_len (elems.map (·.1)); simp only [List.length_map] at this; omega
    have each : ∀ i (hi : i < elems.length), ∃ y, (∃ c, c.length = d.sz ∧ d.K w y c ∧ ∀ j u, c[j]? = some u → w.cell? (a.add (i * d.sz + j)) = some u) ∧ G y := by
      intro i hi
      have h1 := hel i (by omega)
      rw [List.getElem?_eq_getElem hi] at h1
      obtain ⟨c, hcc, htr⟩ := Option.bind_eq_some_iff.1 h1
      obtain ⟨_, hcl, hcell⟩ := World.cells?_some hcc
      obtain ⟨y, hK, hG⟩ := he enc w base spare held n c _ (by omega) htr (hbe _ (List.getElem_mem hi))
      rw [hc] at hcl hcell
      refine ⟨y, ⟨c, hcl, hK, fun j u hu => ?_⟩, hG⟩
      have hj : j < d.sz := by rw [← hcl]; exact (List.getElem?_eq_some_iff.1 hu).1
      have h2 := hcell j hj
      rw [hu, Addr.add_add] at h2
      exact h2
    obtain ⟨ys, hys, hall⟩ : ∃ ys : List α, ys.length = elems.length ∧ ∀ i y, ys[i]? = some y → (∃ c, c.length = d.sz ∧ d.K w y c ∧ ∀ j u, c[j]? = some u → w.cell? (a.add (i * d.sz + j)) = some u) ∧ G y := by
      refine ⟨(List.range elems.length).attach.map (fun i => (each i.1 (List.mem_range.1 i.2)).choose), by simp, fun i y hy => ?_⟩
      obtain ⟨hi, rfl⟩ := List.getElem?_eq_some_iff.1 hy
      have hi' : i < elems.length := by simpa using hi
      have := (each i hi').choose_spec
      simpa using this
    refine ⟨ys, ⟨some a, cap, by rw [hys, hlen], by omega, ⟨rfl, ?_, fun hn => ⟨a, rfl, fun j p hp => (hall j p hp).1⟩⟩⟩, by omega, fun y hy => ?_⟩
    · have : maxLen = 9223372036854775807 := rfl
      omega
    · obtain ⟨i, hi⟩ := List.getElem?_of_mem hy
      exact (hall i y hi).2
theorem opnFN_one {N : Nat} {β : Type} {f : Field} {off : Nat} {d : Kd β} {G : β → Prop} (ho : f.offset = off) (hc : Tryd.prog.cellsOf f.type = d.sz) (h : OpnN N f.type d G) : OpnFN N [f] off d G := by
  intro H enc w base spare held m cs xs hN hl hx hb
  match xs, hl with
  | [x], _ =>
    have h1 := hx 0 f rfl
    rw [ho, hc] at h1
    exact h enc w base spare held m _ x hN h1 (by simpa [Rows.uptoBulkAll] using hb)
theorem opnFN_cons {N : Nat} {α β : Type} {f : Field} {fs : List Field} {off : Nat} {d : Kd α} {d' : Kd β} {G : α → Prop} {G' : β → Prop} (ho : f.offset = off) (hc : Tryd.prog.cellsOf f.type = d.sz) (h : OpnN N f.type d G) (h' : OpnFN N fs (off + d.sz) d' G') : OpnFN N (f :: fs) off (Kd.pair d d') (fun y => G y.1 ∧ G' y.2) := by
  intro H enc w base spare held m cs xs hN hl hx hb
  match xs, hl with
  | x :: xs, hl =>
    have h1 := hx 0 f rfl
    rw [ho, hc] at h1
    simp only [List.map_cons, Rows.uptoBulkAll] at hb
    obtain ⟨y, hK, hG⟩ := h enc w base spare held m _ x hN h1 (by omega)
    obtain ⟨y', hK', hG'⟩ := h' enc w base spare held m cs xs hN (by simpa using hl) (fun i g hg => by simpa using hx (i + 1) g (by simpa using hg)) (by omega)
    refine ⟨(y, y'), ⟨_, _, ?_, hK, hK'⟩, hG, hG'⟩
    show (cs.drop off).take (d.sz + d'.sz) = _
    rw [List.take_add, List.drop_drop]
theorem opnN_struct {N : Nat} {α β : Type} {t : TypeId} {fs : Array Field} {d : Kd β} {G : β → Prop} {f : α → β} (ht : Tryd.prog.underlying t = some (.struct fs)) (hc : Tryd.prog.cellsOf t = d.sz) (h : OpnFN N fs.toList 0 d G) (hf : ∀ y, ∃ x, f x = y)   : OpnN (N + 1) t (Kd.iso d f) (fun x => G (f x)) := by
  intro H enc w base spare held fuel cs x hN hx hb
  obtain ⟨xs, n, hn, rfl, hl, hlen, hfs⟩ := DataW.trod_struct ht hx
  simp only [Rows.uptoBulk] at hb
  obtain ⟨y, hK, hG⟩ := h enc w base spare held n cs xs (by omega) (by simpa using hlen) (fun i g hg => hfs i g (by simpa using hg)) (by omega)
  obtain ⟨x, rfl⟩ := hf y
  refine ⟨x, ?_, hG⟩
  show d.K w (f x) cs
  rw [List.drop_zero, List.take_of_length_le (by omega)] at hK
  exact hK

def GVec (x : S92) : Prop := x.f0.size ≤ 1048576 ∧ AllG I64r x.f1
def GVal (x : Va) : Prop := I64r x.f0 ∧ I64r x.f1 ∧ x.f2.size ≤ 1048576
def GFld (x : S62) : Prop := x.f0.size ≤ 1048576 ∧ GVal x.f1
def GPt (x : S30) : Prop := I64r x.f0 ∧ AllG GVec x.f1 ∧ AllG GFld x.f2
theorem opn_vec : Opn 92 k92 GVec := by
  intro H enc w base spare held fuel cs x hx hb
  have h := opn_struct (f := fun x : S92 => (x.f0, x.f1))  Tryd.underlying92 (by kernel_rfl) (opnF_cons rfl (by kernel_rfl) (opn_string Tryd.underlying9) (opnF_one rfl (by kernel_rfl) (opn_slice Tryd.underlying38 (by kernel_rfl) (opn_int Tryd.underlying3)))) (fun y => ⟨⟨y.1, y.2⟩, rfl⟩) enc w base spare held fuel cs x hx hb
  exact h
theorem opn_va : Opn 23 k23 GVal := by
  intro H enc w base spare held fuel cs x hx hb
  have h := opn_struct (f := fun x : Va => (x.f0, x.f1, x.f2))  Tryd.underlying23 (by kernel_rfl) (opnF_cons rfl (by kernel_rfl) (opn_int Tryd.underlying3) (opnF_cons  rfl (by kernel_rfl) (opn_int Tryd.underlying3) (opnF_one rfl (by kernel_rfl) (opn_string Tryd.underlying9)))) (fun y => ⟨⟨y.1, y.2.1, y.2.2⟩, rfl⟩) enc w base spare held fuel cs x hx hb
  exact h
theorem opn_fld : Opn 62 k62 GFld := by
  intro H enc w base spare held fuel cs x hx hb
  have h := opn_struct (f := fun x : S62 => (x.f0, x.f1))  Tryd.underlying62 (by kernel_rfl) (opnF_cons rfl (by kernel_rfl) (opn_string Tryd.underlying9) (opnF_one rfl (by kernel_rfl) opn_va)) (fun y => ⟨⟨y.1, y.2⟩, rfl⟩) enc w base spare held fuel cs x hx hb
  exact h
theorem opn_pt : Opn 30 k30 GPt := by
  intro H enc w base spare held fuel cs x hx hb
  have h := opn_struct (f := fun x : S30 => (x.f0, x.f1, x.f2))  Tryd.underlying30 (by kernel_rfl) (opnF_cons rfl (by kernel_rfl) (opn_int Tryd.underlying3) (opnF_cons  rfl (by kernel_rfl) (opn_slice Tryd.underlying27 (by kernel_rfl) opn_vec) (opnF_one rfl (by kernel_rfl) (opn_slice Tryd.underlying28 (by kernel_rfl) opn_fld)))) (fun y => ⟨⟨y.1, y.2.1, y.2.2⟩, rfl⟩) enc w base spare held fuel cs x hx hb
  exact h
theorem opn_pts : Opn 36 (Kd.slice 30 k30) (AllG GPt) := opn_slice Tryd.underlying36 (by kernel_rfl) opn_pt
theorem opnN_cond : ∀ N : Nat, ∃ n, OpnN N 26 (Kd.upto F26 8 [26] n) Small
  | 0 => ⟨0, fun enc w base spare held fuel cs x hN hx hb => by
    obtain ⟨xs, n, hn, _⟩ := DataW.trod_struct Tryd.underlying26 hx
    omega⟩
  | N + 1 => by
    obtain ⟨n, ih⟩ := opnN_cond N
    refine ⟨n + 1, fun enc w base spare held fuel cs x hN hx hb => ?_⟩
    have h := opnN_struct (N := N) (f := fun x : Cn => (x.f0, x.f1, x.f2, x.f3, x.f4, x.f5)) Tryd.underlying26 (by rw [show Tryd.prog.cellsOf 26 = 8 by kernel_rfl]; rfl) (opnFN_cons rfl (by kernel_rfl) (OpnN.of (opn_int Tryd.underlying3)) (opnFN_cons rfl (by kernel_rfl) (OpnN.of (opn_string Tryd.underlying9)) (opnFN_cons rfl (by kernel_rfl) (OpnN.of opn_va) (opnFN_cons rfl (by kernel_rfl) (OpnN.of (opn_int Tryd.underlying3)) (opnFN_cons rfl (by kernel_rfl) (OpnN.of (opn_int Tryd.underlying3)) (opnFN_one rfl (by kernel_rfl) (opnN_slice Tryd.underlying24 (by rw [sz26]; kernel_rfl) ih))))))) (fun y => ⟨⟨y.1, y.2.1, y.2.2.1, y.2.2.2.1, y.2.2.2.2.1, y.2.2.2.2.2⟩, rfl⟩) enc w base spare held fuel cs x hN hx hb
    obtain ⟨y, hK, hG⟩ := h
    exact ⟨y, hK, .mk y hG.2.2.2.2.2.1 hG.2.2.2.2.2.2⟩
theorem opn_cond : Opn 26 k26 Small := by
  intro H enc w base spare held fuel cs x hx hb
  obtain ⟨n, h⟩ := opnN_cond fuel
  obtain ⟨y, hK, hG⟩ := h enc w base spare held fuel cs x (Nat.le_refl _) hx hb
  exact ⟨y, ⟨n, hK⟩, hG⟩
end Go.Proofs.YthaofmbjkdikbaaDoor.F

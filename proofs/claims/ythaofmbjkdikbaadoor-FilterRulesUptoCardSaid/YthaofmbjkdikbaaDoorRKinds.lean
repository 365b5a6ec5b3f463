/- What comes in, opened by its kind: whatever reads as a datum of bulk at most 1048576 is a value of its kind, its lists and texts no longer than that, its numbers in their range. -/
import Derived.Test.YthaofmbjkdikbaaDoorRows
import Derived.Test.YthaofmbjkdikbaaDoorWWords
import Derived.ChangeArms
import Derived.ChangeSame
import Derived.DataReads
import Derived.OpenShut
import Derived.WideShapes
namespace Go.Proofs.YthaofmbjkdikbaaDoor.R
open Go.RowKit Go.WideShapes Go.ChangeShapes Go.Proofs.YthaofmbjkdikbaaDoorW.PrintWords
set_option linter.unusedVariables false

theorem bulk_one {H : Type} (d : DataW H) : 1 ≤ Rows.uptoBulk d := by
  cases d with
  | lit l => cases l <;> simp [Rows.uptoBulk]
  | nil => simp [Rows.uptoBulk]
  | ptr d => simp [Rows.uptoBulk]
  | slice elems spare => simp [Rows.uptoBulk]
  | agg parts => simp [Rows.uptoBulk]
  | iface t d => simp [Rows.uptoBulk]
  | map entries => simp [Rows.uptoBulk]
  | held h => simp [Rows.uptoBulk]
theorem bulk_mem {H : Type} {l : List (DataW H)} : ∀ {d : DataW H}, d ∈ l → Rows.uptoBulk d + l.length ≤ Rows.uptoBulkAll l + 1 := by
  induction l with
  | nil => intro d h; simp at h
  | cons x r ih =>
    intro d h
    have h1 := bulk_one x
    have h2 : r.length ≤ Rows.uptoBulkAll r := by
      clear ih h
      induction r with
      | nil => simp
      | cons y s ih2 => have := bulk_one y; simp only [Rows.uptoBulkAll, List.length_cons]; omega
    rcases List.mem_cons.1 h with rfl | h
    · simp only [Rows.uptoBulkAll, List.length_cons]; omega
    · have := ih h
      simp only [Rows.uptoBulkAll, List.length_cons]; omega
theorem bulk_len {H : Type} (l : List (DataW H)) : l.length ≤ Rows.uptoBulkAll l := by
  induction l with
  | nil => simp [Rows.uptoBulkAll]
  | cons x r ih => have := bulk_one x; simp only [Rows.uptoBulkAll, List.length_cons]; omega

/-- Whatever cells read as a datum of type t that is no greater than the bound are those of a value of the kind d, of which G holds. -/
def Opn {α : Type} (t : TypeId) (d : Kd α) (G : α → Prop) : Prop :=
  ∀ {H : Type} (enc : TypeId × Value → H) (w : World) (base : Nat) (spare : Nat → Bool) (held : Bool) (fuel : Nat) (cs : List Value) (x : DataW H × List MemPlace),
    DataW.trod enc Tryd.prog w base spare held fuel t cs = some x → Rows.uptoBulk x.1 ≤ 1048576 → ∃ y, d.K w y cs ∧ G y
def I64r (n : Int) : Prop := -9223372036854775808 ≤ n ∧ n ≤ 9223372036854775807
theorem i64r_of {n : Int} (h : (Lit.int .i64 n).wf = true) : I64r n := by
  have h : (decide (IntKind.i64.min ≤ n) && decide (n ≤ IntKind.i64.max)) = true := h
  rw [Bool.and_eq_true] at h
  exact ⟨of_decide_eq_true h.1, of_decide_eq_true h.2⟩
theorem opn_int {t : TypeId} (ht : Tryd.prog.underlying t = some (.int .i64)) : Opn t (Kd.int .i64) I64r := by
  intro H enc w base spare held fuel cs x h _
  obtain ⟨n, rfl, _, hw⟩ := DataW.trod_int ht h
  exact ⟨n, rfl, i64r_of hw⟩
theorem opn_bool {t : TypeId} (ht : Tryd.prog.underlying t = some .bool) : Opn t Kd.bool (fun _ => True) := by
  intro H enc w base spare held fuel cs x h _
  obtain ⟨b, rfl, _⟩ := DataW.trod_bool ht h
  exact ⟨b, rfl, trivial⟩
theorem opn_string {t : TypeId} (ht : Tryd.prog.underlying t = some .string) : Opn t Kd.string (fun s => s.size ≤ 1048576) := by
  intro H enc w base spare held fuel cs x h hb
  obtain ⟨s, rfl, rfl, _⟩ := DataW.trod_string ht h
  refine ⟨s, rfl, ?_⟩
  simp only [Rows.uptoBulk] at hb
  have e : s.data.toList.length = s.size := by rw [Array.length_toList]; rfl
  show s.size ≤ 1048576
  omega
/-- What a list that came in is: no longer than the bound, each of its elements good. -/
def AllG {α : Type} (G : α → Prop) (l : List α) : Prop := l.length ≤ 1048576 ∧ ∀ y ∈ l, G y
theorem opn_slice {α : Type} {t e : TypeId} {d : Kd α} {G : α → Prop} (ht : Tryd.prog.underlying t = some (.slice e)) (hc : Tryd.prog.cellsOf e = d.sz) (he : Opn e d G) : Opn t (Kd.slice e d) (AllG G) := by
  intro H enc w base spare held fuel cs x h hb
  rcases DataW.trod_slice ht h with ⟨rfl, rfl⟩ | ⟨a, len, cap, elems, rest, n, _, rfl, rfl, hba, hl, hm, hlen, hel, hsp, hns⟩
  · exact ⟨[], ⟨none, 0, rfl, Nat.le_refl _, ⟨rfl, by simp, fun h => absurd h (by simp)⟩⟩, by simp, by simp⟩
  · simp only [Rows.uptoBulk] at hb
    have hbe : ∀ y ∈ elems, Rows.uptoBulk y.1 ≤ 1048576 := fun y hy => by
      have h1 := bulk_mem (List.mem_map.2 ⟨y, hy, rfl⟩ : y.1 ∈ elems.map (·.1))
      have h2 : 0 < elems.length := List.length_pos_of_mem hy
      simp only [List.length_map] at h1
      omega
    have hle : elems.length ≤ 1048576 := by have := bulk_len (elems.map (·.1)); simp only [List.length_map] at this; omega
    have each : ∀ i (hi : i < elems.length), ∃ y, (∃ c, c.length = d.sz ∧ d.K w y c ∧ ∀ j u, c[j]? = some u → w.cell? (a.add (i * d.sz + j)) = some u) ∧ G y := by
      intro i hi
      have h1 := hel i (by omega)
      rw [List.getElem?_eq_getElem hi] at h1
      obtain ⟨c, hcc, htr⟩ := Option.bind_eq_some_iff.1 h1
      obtain ⟨_, hcl, hcell⟩ := World.cells?_some hcc
      obtain ⟨y, hK, hG⟩ := he enc w base spare held n c _ htr (hbe _ (List.getElem_mem hi))
      rw [hc] at hcl hcell
      refine ⟨y, ⟨c, hcl, hK, fun j u hu => ?_⟩, hG⟩
      have hj : j < d.sz := by rw [← hcl]; exact (List.getElem?_eq_some_iff.1 hu).1
      have h2 := hcell j hj
      rw [hu, Addr.add_add] at h2
      exact h2
    obtain ⟨ys, hys, hall⟩ : ∃ ys : List α, ys.length = elems.length ∧ ∀ i y, ys[i]? = some y → (∃ c, c.length = d.sz ∧ d.K w y c ∧ ∀ j u, c[j]? = some u → w.cell? (a.add (i * d.sz + j)) = some u) ∧ G y := by
      refine ⟨(List.range elems.length).attach.map (fun i => (each i.1 (List.mem_range.1 i.2)).choose), by simp, fun i y hy => ?_⟩
      obtain ⟨hi, rfl⟩ := List.getElem?_eq_some_iff.1 hy
      have hi' : i < elems.length := by simpa using hi
      have := (each i hi').choose_spec
      simpa using this
    refine ⟨ys, ⟨some a, cap, by rw [hys, hlen], by omega, ⟨rfl, ?_, fun hn => ⟨a, rfl, fun j p hp => (hall j p hp).1⟩⟩⟩, by omega, fun y hy => ?_⟩
    · have : maxLen = 9223372036854775807 := rfl
      omega
    · obtain ⟨i, hi⟩ := List.getElem?_of_mem hy
      exact (hall i y hi).2
/-- The fields of a struct from one on: their cells begin at off. -/
def OpnF {β : Type} (fs : List Field) (off : Nat) (d : Kd β) (G : β → Prop) : Prop :=
  ∀ {H : Type} (enc : TypeId × Value → H) (w : World) (base : Nat) (spare : Nat → Bool) (held : Bool) (m : Nat) (cs : List Value) (xs : List (DataW H × List MemPlace)),
    xs.length = fs.length → (∀ (i : Nat) (f : Field), fs[i]? = some f → DataW.trod enc Tryd.prog w base spare held m f.type ((cs.drop f.offset).take (Tryd.prog.cellsOf f.type)) = xs[i]?) → Rows.uptoBulkAll (xs.map (·.1)) ≤ 1048576 → ∃ y, d.K w y ((cs.drop off).take d.sz) ∧ G y
theorem opnF_one {β : Type} {f : Field} {off : Nat} {d : Kd β} {G : β → Prop} (ho : f.offset = off) (hc : Tryd.prog.cellsOf f.type = d.sz) (h : Opn f.type d G) : OpnF [f] off d G := by
  intro H enc w base spare held m cs xs hl hx hb
  match xs, hl with
  | [x], _ =>
    have h1 := hx 0 f rfl
    rw [ho, hc] at h1
    exact h enc w base spare held m _ x h1 (by simpa [Rows.uptoBulkAll] using hb)
theorem opnF_cons {α β : Type} {f : Field} {fs : List Field} {off : Nat} {d : Kd α} {d' : Kd β} {G : α → Prop} {G' : β → Prop} (ho : f.offset = off) (hc : Tryd.prog.cellsOf f.type = d.sz) (h : Opn f.type d G) (h' : OpnF fs (off + d.sz) d' G') : OpnF (f :: fs) off (Kd.pair d d') (fun y => G y.1 ∧ G' y.2) := by
  intro H enc w base spare held m cs xs hl hx hb
  match xs, hl with
  | x :: xs, hl =>
    have h1 := hx 0 f rfl
    rw [ho, hc] at h1
    simp only [List.map_cons, Rows.uptoBulkAll] at hb
    obtain ⟨y, hK, hG⟩ := h enc w base spare held m _ x h1 (by omega)
    obtain ⟨y', hK', hG'⟩ := h' enc w base spare held m cs xs (by simpa using hl) (fun i g hg => by simpa using hx (i + 1) g (by simpa using hg)) (by omega)
    refine ⟨(y, y'), ⟨_, _, ?_, hK, hK'⟩, hG, hG'⟩
    show (cs.drop off).take (d.sz + d'.sz) = _
    rw [List.take_add, List.drop_drop]
theorem opn_struct {α β : Type} {t : TypeId} {fs : Array Field} {d : Kd β} {G : β → Prop} {f : α → β} (ht : Tryd.prog.underlying t = some (.struct fs)) (hc : Tryd.prog.cellsOf t = d.sz) (h : OpnF fs.toList 0 d G) (hf : ∀ y, ∃ x, f x = y) : Opn t (Kd.iso d f) (fun x => G (f x)) := by
  intro H enc w base spare held fuel cs x hx hb
  obtain ⟨xs, n, _, rfl, hl, hlen, hfs⟩ := DataW.trod_struct ht hx
  simp only [Rows.uptoBulk] at hb
  obtain ⟨y, hK, hG⟩ := h enc w base spare held n cs xs (by simpa using hlen) (fun i g hg => hfs i g (by simpa using hg)) (by omega)
  obtain ⟨x, rfl⟩ := hf y
  refine ⟨x, ?_, hG⟩
  show d.K w (f x) cs
  rw [List.drop_zero, List.take_of_length_le (by omega)] at hK
  exact hK
theorem opn_array2 {α : Type} {t e : TypeId} {d : Kd α} {G : α → Prop} (ht : Tryd.prog.underlying t = some (.array 2 e)) (hc : Tryd.prog.cellsOf t = 2 * d.sz) (hce : Tryd.prog.cellsOf e = d.sz) (h : Opn e d G) : Opn t (Kd.pair d d) (fun y => G y.1 ∧ G y.2) := by
  intro H enc w base spare held fuel cs x hx hb
  obtain ⟨xs, m, _, rfl, hl, hlen, hfs⟩ := DataW.trod_array ht hx
  match xs, hlen with
  | [x0, x1], _ =>
    simp only [Rows.uptoBulk, List.map_cons, List.map_nil, Rows.uptoBulkAll] at hb
    have h0 := hfs 0 (by omega)
    have h1 := hfs 1 (by omega)
    rw [hce] at h0 h1
    obtain ⟨y0, hK0, hG0⟩ := h enc w base spare held m _ x0 h0 (by omega)
    obtain ⟨y1, hK1, hG1⟩ := h enc w base spare held m _ x1 h1 (by omega)
    refine ⟨(y0, y1), ⟨_, _, ?_, hK0, hK1⟩, hG0, hG1⟩
    have hcl : cs.length = d.sz + d.sz := by omega
    rw [Nat.zero_mul, List.drop_zero, Nat.one_mul, List.take_of_length_le (l := cs.drop d.sz) (by simp; omega), List.take_append_drop]

/-! ### an argument -/
set_option maxRecDepth 100000
section
variable {H : Type} {enc : TypeId × Value → H} {w : World} {sp : Nat → Bool} {held : Bool} {base b0 : Nat} {v : Value} {x : DataW H} {p : List MemPlace}
theorem arg_slice {α : Type} {t e : TypeId} {d : Kd α} {G : α → Prop} (ht : Tryd.prog.underlying t = some (.slice e)) (ho : Opn t (Kd.slice e d) (AllG G)) (hv : Value.okWide Tryd.prog w .any b0 t v) (h : DataW.Trod enc Tryd.prog w base sp held t v x p) (hb : Rows.uptoBulk x ≤ 1048576) :
    ∃ A c ys, v = .slice A ys.length c ∧ ys.length ≤ c ∧ d.C w A ys.length ys ∧ AllG G ys := by
  obtain ⟨a, len, cap, rfl⟩ := okWide_slice ht hv
  obtain ⟨fuel, hf⟩ := h
  obtain ⟨ys, ⟨A, c, hcs, hl, hC⟩, hG⟩ := ho enc w base sp held fuel _ _ hf (by dsimp only; exact hb)
  have : Value.slice a len cap = .slice A ys.length c := by simpa [Value.cells] using hcs
  exact ⟨A, c, ys, this, hl, hC, hG⟩
theorem arg_int {t : TypeId} (ht : Tryd.prog.underlying t = some (.int .i64)) (hv : Value.okWide Tryd.prog w .any b0 t v) (h : DataW.Trod enc Tryd.prog w base sp held t v x p) : ∃ n, v = .int .i64 n ∧ I64r n := by
  obtain ⟨n, rfl⟩ := okWide_int ht hv
  obtain ⟨fuel, hf⟩ := h
  obtain ⟨m, hcs, _, hw⟩ := DataW.trod_int ht hf
  have : n = m := by simpa [Value.cells] using hcs
  subst this
  exact ⟨n, rfl, i64r_of hw⟩
theorem arg_bool {t : TypeId} (ht : Tryd.prog.underlying t = some .bool) (hv : Value.okWide Tryd.prog w .any b0 t v) : ∃ b, v = .bool b := okWide_bool ht hv
theorem arg_string {t : TypeId} (ht : Tryd.prog.underlying t = some .string) (hv : Value.okWide Tryd.prog w .any b0 t v) (h : DataW.Trod enc Tryd.prog w base sp held t v x p) (hb : Rows.uptoBulk x ≤ 1048576) : ∃ s, v = .string s ∧ s.size ≤ 1048576 := by
  obtain ⟨s, rfl⟩ := okWide_string ht hv
  obtain ⟨fuel, hf⟩ := h
  obtain ⟨s', hcs, hG⟩ := opn_string ht enc w base sp held fuel _ _ hf (by dsimp only; exact hb)
  have hcs : [Value.string s] = [.string s'] := hcs
  have : s = s' := by simpa using hcs
  subst this
  exact ⟨s, rfl, hG⟩
theorem arg_struct {α : Type} {t : TypeId} {fs : Array Field} {d : Kd α} {G : α → Prop} (ht : Tryd.prog.underlying t = some (.struct fs)) (ho : Opn t d G) (hv : Value.okWide Tryd.prog w .any b0 t v) (h : DataW.Trod enc Tryd.prog w base sp held t v x p) (hb : Rows.uptoBulk x ≤ 1048576) :
    ∃ cs y, v = .agg cs.toArray ∧ d.K w y cs ∧ G y := by
  obtain ⟨cs, rfl, _⟩ := okWide_struct ht hv
  obtain ⟨fuel, hf⟩ := h
  obtain ⟨y, hK, hG⟩ := ho enc w base sp held fuel _ _ hf (by dsimp only; exact hb)
  exact ⟨_, y, by simp [Value.cells], hK, hG⟩
theorem arg_array {α : Type} {t e : TypeId} {n : Nat} {d : Kd α} {G : α → Prop} (ht : Tryd.prog.underlying t = some (.array n e)) (ho : Opn t d G) (hv : Value.okWide Tryd.prog w .any b0 t v) (h : DataW.Trod enc Tryd.prog w base sp held t v x p) (hb : Rows.uptoBulk x ≤ 1048576) :
    ∃ cs y, v = .agg cs.toArray ∧ d.K w y cs ∧ G y := by
  obtain ⟨cs, rfl⟩ : ∃ cs, v = .agg cs := by
    simp only [Value.okWide, ht] at hv
    obtain ⟨cs, h1, _⟩ := hv
    exact ⟨cs, h1⟩
  obtain ⟨fuel, hf⟩ := h
  obtain ⟨y, hK, hG⟩ := ho enc w base sp held fuel _ _ hf (by dsimp only; exact hb)
  exact ⟨_, y, by simp [Value.cells], hK, hG⟩
end
end Go.Proofs.YthaofmbjkdikbaaDoor.R

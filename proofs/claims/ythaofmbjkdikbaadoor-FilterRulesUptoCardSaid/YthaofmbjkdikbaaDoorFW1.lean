/- Filter: the opposite of a condition, and how great a condition is (of other texts of this seat, what FilterRules asks). Filter: what the law FilterRules asks: law16.of, three conditions in an array, the plain law. Filter: a drawing region walked by an invariant, and so region 5 of the law FilterRules. (Written by hp/genr5.py.) Filter: the walk of the law FilterRules, what its parts share. (Written by hp/gensplit.py.) -/
import Derived.Test.YthaofmbjkdikbaaDoorFSure
import Derived.Test.YthaofmbjkdikbaaDoorFKinds
import Derived.Test.YthaofmbjkdikbaaDoorPAllx6
import Derived.Laws.Tables
import Derived.Laws.Rows
import Derived.Deep.RegionHeld
namespace Go.Proofs.YthaofmbjkdikbaaDoor.F
open Go.RowKit Go.WideShapes Go.ChangeShapes Go.Lib Go.Sort Go.Shelf Go.Proofs.YthaofmbjkdikbaaDoorW.PrintWords Go.Proofs.YthaofmbjkdikbaaDoor.PAll Go.Proofs.YthaofmbjkdikbaaDoor.R Go.Proofs.YthaofmbjkdikbaaDoor.V
set_option linter.unusedVariables false
theorem up1 {α : Type} {f : Nat → Option α} (hm : ∀ k, LeO (f k) (f (k + 1))) {k k' : Nat} (hk : k ≤ k') {r : α} (h : f k = some r) : f k' = some r := by
  induction hk with
  | refl => exact h
  | step _ ih => exact hm _ _ ih
theorem rdC {l : List Cn} {i : Nat} (hi : i < l.length) : rd_T26 l (i : Int) = l[i] := by unfold rd_T26; simp [hi]
/-- Both answer, and the same. -/
def T_size (c : Cn) : Prop := ∃ k t, filter_Size.f k c.f0 c.f1 c.f2.f0 c.f2.f1 c.f2.f2 c.f3 c.f4 c.f5 = some t ∧ lodestarref16_Size.f k c.f0 c.f1 c.f2.f0 c.f2.f1 c.f2.f2 c.f3 c.f4 c.f5 = some t
theorem size_loop (l : List Cn) (hl : l.length ≤ 1048576) (a0 : Int) (a1 : ByteArray) (a2 a3 : Int) (a4 : ByteArray) (a5 a6 : Int) (ih : ∀ y ∈ l, T_size y) : ∀ (d i : Nat) (x : Int), i + d = l.length →
    ∃ k t, filter_Size.l0 k x l (l.length : Int) (i : Int) = some t ∧ lodestarref16_Size.l0 k x (i : Int) a0 a1 a2 a3 a4 a5 a6 l = some t
  | 0, i, x, h => ⟨1, x, by rw [filter_Size.l0, if_neg (by omega)], by rw [lodestarref16_Size.l0, if_neg (by omega)]⟩
  | d + 1, i, x, h => by
    have hi : i < l.length := by omega
    obtain ⟨k1, t, h1, h2⟩ := ih l[i] (List.getElem_mem hi)
    obtain ⟨k2, r, h3, h4⟩ := size_loop l hl a0 a1 a2 a3 a4 a5 a6 ih d (i + 1) (wrap64 (x + t)) (by omega)
    refine ⟨k1 + k2 + 1, r, ?_, ?_⟩
    · rw [filter_Size.l0, if_pos (by omega), if_pos (by omega), if_pos (by omega), rdC hi, up1 (fun k => (filter_Size.mono_l k).1 _ _ _ _ _ _ _ _) (Nat.le_add_right k1 k2) h1, Option.bind_some, wr_next (by omega)]
      exact up1 (fun k => (filter_Size.mono_l k).2 _ _ _ _) (Nat.le_add_left k2 k1) h3
    · rw [lodestarref16_Size.l0, if_pos (by omega), if_pos (by omega), rdC hi, up1 (fun k => (lodestarref16_Size.mono_l k).1 _ _ _ _ _ _ _ _) (Nat.le_add_right k1 k2) h2, Option.bind_some, wr_next (by omega)]
      exact up1 (fun k => (lodestarref16_Size.mono_l k).2 _ _ _ _ _ _ _ _ _ _) (Nat.le_add_left k2 k1) h4
theorem size_all {c : Cn} (hs : Small c) : T_size c := by
  induction hs with
  | mk c hl hsub ih =>
    obtain ⟨k, t, h1, h2⟩ := size_loop c.f5 hl c.f0 c.f1 c.f2.f0 c.f2.f1 c.f2.f2 c.f3 c.f4 ih c.f5.length 0 1 (by omega)
    exact ⟨k + 1, t, by rw [filter_Size.f]; exact h1, by rw [lodestarref16_Size.f]; exact h2⟩
def notC (c : Cn) : Cn := ⟨6, ⟨#[]⟩, ⟨0, 0, ⟨#[]⟩⟩, 0, 0, [c]⟩
theorem small_not {c : Cn} (h : Small c) : Small (notC c) := .mk _ (by show 1 ≤ 1048576; omega) (fun x hx => by rw [List.mem_singleton.1 hx]; exact h)
theorem pass_not (fs : List Fi) (c : Cn) : passC fs (notC c) = !passC fs c := by
  rw [passC]
  show (decide ([c].length = 1) && ([c].map fun x => passC fs x).all fun b => !b) = _
  simp
set_option maxRecDepth 100000 in
set_option maxHeartbeats 1000000 in
theorem not_calls (k : Int) (nm : ByteArray) (v0 v1 : Int) (v2 : ByteArray) (lo hi : Int) (cl : List Cn) (A7 : Option Addr) (c7 : Nat) (w : World) (hc7 : cl.length ≤ c7) (hC : Kd.C k26 w A7 cl.length cl) :
    Calls Tryd.prog 19 #[.agg #[.int .i64 k, .string nm, .int .i64 v0, .int .i64 v1, .string v2, .int .i64 lo, .int .i64 hi, .slice A7 cl.length c7]] w fun e w' => ∃ g, e = .returned (.agg #[.int .i64 6, .string ⟨#[]⟩, .int .i64 0, .int .i64 0, .string ⟨#[]⟩, .int .i64 0, .int .i64 0, .slice (some ⟨g, 0, none⟩) 1 1]) ∧ Kd.C k26 w' (some ⟨g, 0, none⟩) 1 [(⟨k, nm, ⟨v0, v1, v2⟩, lo, hi, cl⟩ : Cn)] ∧ Below w.heap.size w w' := by
  have hb1 : Below w.heap.size w (((w.alloc (.cells #[.int .i64 k, .string nm, .int .i64 v0, .int .i64 v1, .string v2, .int .i64 lo, .int .i64 hi, .slice A7 cl.length c7] 26)).alloc (.cells #[.int .i64 6, .string ⟨#[]⟩, .int .i64 0, .int .i64 0, .string ⟨#[]⟩, .int .i64 0, .int .i64 0, .slice (some ⟨w.heap.size + 1 + 1, 0, none⟩) 1 1] 26)).alloc (.cells #[.int .i64 k, .string nm, .int .i64 v0, .int .i64 v1, .string v2, .int .i64 lo, .int .i64 hi, .slice A7 cl.length c7] 26)) := (((Below.refl _ w).alloc (Nat.le_refl _) _).alloc (by simp) _).alloc (by simp <;> omega) _
  have hr : (((w.alloc (.cells #[.int .i64 k, .string nm, .int .i64 v0, .int .i64 v1, .string v2, .int .i64 lo, .int .i64 hi, .slice A7 cl.length c7] 26)).alloc (.cells #[.int .i64 6, .string ⟨#[]⟩, .int .i64 0, .int .i64 0, .string ⟨#[]⟩, .int .i64 0, .int .i64 0, .slice (some ⟨w.heap.size + 1 + 1, 0, none⟩) 1 1] 26)).alloc (.cells #[.int .i64 k, .string nm, .int .i64 v0, .int .i64 v1, .string v2, .int .i64 lo, .int .i64 hi, .slice A7 cl.length c7] 26)).heap[w.heap.size + 1]? = some (.cells #[.int .i64 6, .string ⟨#[]⟩, .int .i64 0, .int .i64 0, .string ⟨#[]⟩, .int .i64 0, .int .i64 0, .slice (some ⟨w.heap.size + 1 + 1, 0, none⟩) 1 1] 26 (0, 0)) := (Below.heap_alloc _ _ _ (by simp)).trans (by have h := World.alloc_heap_new (w.alloc (.cells #[.int .i64 k, .string nm, .int .i64 v0, .int .i64 v1, .string v2, .int .i64 lo, .int .i64 hi, .slice A7 cl.length c7] 26)) (.cells #[.int .i64 6, .string ⟨#[]⟩, .int .i64 0, .int .i64 0, .string ⟨#[]⟩, .int .i64 0, .int .i64 0, .slice (some ⟨w.heap.size + 1 + 1, 0, none⟩) 1 1] 26); rwa [World.size_alloc] at h)
  have hg : (((w.alloc (.cells #[.int .i64 k, .string nm, .int .i64 v0, .int .i64 v1, .string v2, .int .i64 lo, .int .i64 hi, .slice A7 cl.length c7] 26)).alloc (.cells #[.int .i64 6, .string ⟨#[]⟩, .int .i64 0, .int .i64 0, .string ⟨#[]⟩, .int .i64 0, .int .i64 0, .slice (some ⟨w.heap.size + 1 + 1, 0, none⟩) 1 1] 26)).alloc (.cells #[.int .i64 k, .string nm, .int .i64 v0, .int .i64 v1, .string v2, .int .i64 lo, .int .i64 hi, .slice A7 cl.length c7] 26)).heap[w.heap.size + 1 + 1]? = some (.cells #[.int .i64 k, .string nm, .int .i64 v0, .int .i64 v1, .string v2, .int .i64 lo, .int .i64 hi, .slice A7 cl.length c7] 26 (0, 0)) := by have h := World.alloc_heap_new ((w.alloc (.cells #[.int .i64 k, .string nm, .int .i64 v0, .int .i64 v1, .string v2, .int .i64 lo, .int .i64 hi, .slice A7 cl.length c7] 26)).alloc (.cells #[.int .i64 6, .string ⟨#[]⟩, .int .i64 0, .int .i64 0, .string ⟨#[]⟩, .int .i64 0, .int .i64 0, .slice (some ⟨w.heap.size + 1 + 1, 0, none⟩) 1 1] 26)) (.cells #[.int .i64 k, .string nm, .int .i64 v0, .int .i64 v1, .string v2, .int .i64 lo, .int .i64 hi, .slice A7 cl.length c7] 26); simpa [World.size_alloc] using h
  go_enter Tryd.func19, Tryd.ntmps19
  go_wp2_with fail
  generalize (((w.alloc (.cells #[.int .i64 k, .string nm, .int .i64 v0, .int .i64 v1, .string v2, .int .i64 lo, .int .i64 hi, .slice A7 cl.length c7] 26)).alloc (.cells #[.int .i64 6, .string ⟨#[]⟩, .int .i64 0, .int .i64 0, .string ⟨#[]⟩, .int .i64 0, .int .i64 0, .slice (some ⟨w.heap.size + 1 + 1, 0, none⟩) 1 1] 26)).alloc (.cells #[.int .i64 k, .string nm, .int .i64 v0, .int .i64 v1, .string v2, .int .i64 lo, .int .i64 hi, .slice A7 cl.length c7] 26)) = W3 at *
  have r0 := cell_of_blk hr (j := 0) rfl
  have r1 := cell_of_blk hr (j := 1) rfl
  have r2 := cell_of_blk hr (j := 2) rfl
  have r3 := cell_of_blk hr (j := 3) rfl
  have r4 := cell_of_blk hr (j := 4) rfl
  have r5 := cell_of_blk hr (j := 5) rfl
  have r6 := cell_of_blk hr (j := 6) rfl
  have r7 := cell_of_blk hr (j := 7) rfl
  exact bodyPost_ret (v := .agg #[.int .i64 6, .string ⟨#[]⟩, .int .i64 0, .int .i64 0, .string ⟨#[]⟩, .int .i64 0, .int .i64 0, .slice (some ⟨w.heap.size + 1 + 1, 0, none⟩) 1 1]) (by simp [results, Tryd.results19, go_sem, r0, r1, r2, r3, r4, r5, r6, r7]) rfl ⟨_, rfl, C_of_block k26 hg (Reps.snoc (Reps.none _ _) (k26_mk W3 (⟨k, nm, ⟨v0, v1, v2⟩, lo, hi, cl⟩ : Cn) hc7 (Kd.C_below hC hb1)) rfl) (by simp), hb1⟩
end Go.Proofs.YthaofmbjkdikbaaDoor.F
namespace Go.Proofs.YthaofmbjkdikbaaDoor.F
open Go.RowKit Go.WideShapes Go.ChangeShapes Go.Lib Go.Shelf Go.Proofs.YthaofmbjkdikbaaDoorW.PrintWords Go.Proofs.YthaofmbjkdikbaaDoor.PAll Go.Proofs.YthaofmbjkdikbaaDoor.R Go.Proofs.YthaofmbjkdikbaaDoor.V
set_option linter.unusedVariables false
set_option maxRecDepth 100000 in
set_option maxHeartbeats 1000000 in
theorem of16_calls (k : Int) (A : Option Addr) (n c : Nat) (w : World) :
    Calls Tryd.prog 20 #[.int .i64 k, .slice A n c] w fun e w' => e = .returned (.agg #[.int .i64 k, .string ⟨#[]⟩, .int .i64 0, .int .i64 0, .string ⟨#[]⟩, .int .i64 0, .int .i64 0, .slice A n c]) ∧ Below w.heap.size w w' := by
  have hb1 : Below w.heap.size w (w.alloc (.cells #[.int .i64 k, .string ⟨#[]⟩, .int .i64 0, .int .i64 0, .string ⟨#[]⟩, .int .i64 0, .int .i64 0, .slice A n c] 26)) := (Below.refl _ w).alloc (Nat.le_refl _) _
  have hr := World.alloc_heap_new w (.cells #[.int .i64 k, .string ⟨#[]⟩, .int .i64 0, .int .i64 0, .string ⟨#[]⟩, .int .i64 0, .int .i64 0, .slice A n c] 26)
  go_enter Tryd.func20, Tryd.ntmps20
  go_wp2_with fail
  generalize w.alloc (.cells #[.int .i64 k, .string ⟨#[]⟩, .int .i64 0, .int .i64 0, .string ⟨#[]⟩, .int .i64 0, .int .i64 0, .slice A n c] 26) = W3 at *
  have r0 := cell_of_blk hr (j := 0) rfl
  have r1 := cell_of_blk hr (j := 1) rfl
  have r2 := cell_of_blk hr (j := 2) rfl
  have r3 := cell_of_blk hr (j := 3) rfl
  have r4 := cell_of_blk hr (j := 4) rfl
  have r5 := cell_of_blk hr (j := 5) rfl
  have r6 := cell_of_blk hr (j := 6) rfl
  have r7 := cell_of_blk hr (j := 7) rfl
  exact bodyPost_ret (v := .agg #[.int .i64 k, .string ⟨#[]⟩, .int .i64 0, .int .i64 0, .string ⟨#[]⟩, .int .i64 0, .int .i64 0, .slice A n c]) (by simp [results, Tryd.results20, go_sem, r0, r1, r2, r3, r4, r5, r6, r7]) rfl ⟨rfl, hb1⟩
/-! ### three conditions in an array -/
theorem opn_array3 {α : Type} {t e : TypeId} {d : Kd α} {G : α → Prop} (ht : Tryd.prog.underlying t = some (.array 3 e)) (hc : Tryd.prog.cellsOf t = 3 * d.sz) (hce : Tryd.prog.cellsOf e = d.sz) (h : Opn e d G) : Opn t (Kd.pair d (Kd.pair d d)) (fun y => G y.1 ∧ G y.2.1 ∧ G y.2.2) := by
  intro H enc w base spare held fuel cs x hx hb
  obtain ⟨xs, m, _, rfl, hl, hlen, hfs⟩ := DataW.trod_array ht hx
  match xs, hlen with
  | [x0, x1, x2], _ =>
    simp only [Rows.uptoBulk, List.map_cons, List.map_nil, Rows.uptoBulkAll] at hb
    have h0 := hfs 0 (by omega)
    have h1 := hfs 1 (by omega)
    have h2 := hfs 2 (by omega)
    rw [hce] at h0 h1 h2
    obtain ⟨y0, hK0, hG0⟩ := h enc w base spare held m _ x0 h0 (by omega)
    obtain ⟨y1, hK1, hG1⟩ := h enc w base spare held m _ x1 h1 (by omega)
    obtain ⟨y2, hK2, hG2⟩ := h enc w base spare held m _ x2 h2 (by omega)
    have hcl : cs.length = d.sz + (d.sz + d.sz) := by omega
    refine ⟨(y0, y1, y2), ⟨_, _, ?_, hK0, ⟨_, _, rfl, hK1, hK2⟩⟩, hG0, hG1, hG2⟩
    rw [Nat.zero_mul, List.drop_zero, Nat.one_mul]
    have e2 : (cs.drop (2 * d.sz)).take d.sz = (cs.drop d.sz).drop d.sz := by
      rw [List.drop_drop, Nat.two_mul]
      exact List.take_of_length_le (by rw [List.length_drop]; omega)
    rw [e2, List.take_append_drop, List.take_append_drop]
theorem opn_arr : Opn 41 (Kd.pair k26 (Kd.pair k26 k26)) (fun y => Small y.1 ∧ Small y.2.1 ∧ Small y.2.2) :=
  opn_array3 Tryd.underlying41 (by kernel_rfl) (by kernel_rfl) opn_cond
/-! ### the plain law -/
def andC (l : List Cn) : Cn := ⟨7, ⟨#[]⟩, ⟨0, 0, ⟨#[]⟩⟩, 0, 0, l⟩
def orC (l : List Cn) : Cn := ⟨8, ⟨#[]⟩, ⟨0, 0, ⟨#[]⟩⟩, 0, 0, l⟩
theorem small_and {l : List Cn} (hl : l.length ≤ 1048576) (h : ∀ x ∈ l, Small x) : Small (andC l) := .mk _ hl h
theorem small_or {l : List Cn} (hl : l.length ≤ 1048576) (h : ∀ x ∈ l, Small x) : Small (orC l) := .mk _ hl h
theorem pass_and (fs : List Fi) (l : List Cn) : passC fs (andC l) = l.all fun x => passC fs x := by
  rw [passC]
  show ((l.map fun x => passC fs x).all fun b => b) = _
  rw [List.all_map]
  rfl
theorem pass_or (fs : List Fi) (l : List Cn) : passC fs (orC l) = l.any fun x => passC fs x := by
  rw [passC]
  show ((l.map fun x => passC fs x).any fun b => b) = _
  rw [List.any_map]
  rfl
/-- How great a condition of three is. -/
theorem size_three {a b c : Cn} (ha : Small a) (hb : Small b) (hc : Small c) : ∃ k sa sb sc, filter_Size.f k a.f0 a.f1 a.f2.f0 a.f2.f1 a.f2.f2 a.f3 a.f4 a.f5 = some sa ∧ filter_Size.f k b.f0 b.f1 b.f2.f0 b.f2.f1 b.f2.f2 b.f3 b.f4 b.f5 = some sb ∧ filter_Size.f k c.f0 c.f1 c.f2.f0 c.f2.f1 c.f2.f2 c.f3 c.f4 c.f5 = some sc ∧
    filter_Size.f k 7 ⟨#[]⟩ 0 0 ⟨#[]⟩ 0 0 [a, b, c] = some (wrap64 (wrap64 (wrap64 (1 + sa) + sb) + sc)) := by
  obtain ⟨k1, sa, h1, _⟩ := size_all ha
  obtain ⟨k2, sb, h2, _⟩ := size_all hb
  obtain ⟨k3, sc, h3, _⟩ := size_all hc
  have up := fun (c : Cn) (k k' : Nat) (hk : k ≤ k') (s : Int) (h : filter_Size.f k c.f0 c.f1 c.f2.f0 c.f2.f1 c.f2.f2 c.f3 c.f4 c.f5 = some s) => up1 (f := fun k => filter_Size.f k c.f0 c.f1 c.f2.f0 c.f2.f1 c.f2.f2 c.f3 c.f4 c.f5) (fun k => (filter_Size.mono_l k).1 _ _ _ _ _ _ _ _) hk h
  refine ⟨k1 + k2 + k3 + 5, sa, sb, sc, up a k1 _ (by omega) sa h1, up b k2 _ (by omega) sb h2, up c k3 _ (by omega) sc h3, ?_⟩
  have r0 : rd_T26 [a, b, c] 0 = a := rfl
  have r1 : rd_T26 [a, b, c] 1 = b := rfl
  have r2 : rd_T26 [a, b, c] 2 = c := rfl
  have w1 : wrap64 (0 + 1) = 1 := by unfold wrap64; omega
  have w2 : wrap64 (1 + 1) = 2 := by unfold wrap64; omega
  have w3 : wrap64 (2 + 1) = 3 := by unfold wrap64; omega
  rw [filter_Size.f, filter_Size.l0, if_pos (by simp), if_pos (by simp), if_pos (by simp), r0, up a k1 _ (by omega) sa h1, Option.bind_some, w1,
    filter_Size.l0, if_pos (by simp), if_pos (by simp), if_pos (by simp), r1, up b k2 _ (by omega) sb h2, Option.bind_some, w2,
    filter_Size.l0, if_pos (by simp), if_pos (by simp), if_pos (by simp), r2, up c k3 _ (by omega) sc h3, Option.bind_some, w3,
    filter_Size.l0, if_neg (by simp)]
end Go.Proofs.YthaofmbjkdikbaaDoor.F
namespace Go.Proofs.YthaofmbjkdikbaaDoor.F
open Go.RowKit Go.Lib Go.Sort Go.Shelf Go.Proofs.YthaofmbjkdikbaaDoorW.PrintWords Go.Proofs.YthaofmbjkdikbaaDoor.PAll Go.Proofs.YthaofmbjkdikbaaDoor.V
set_option linter.unusedVariables false
/-! ### whichever order is picked: an invariant over what has come up -/
section
variable {P : Program} {ops : Array Oper} {Q : Exit → Act → World → Prop} {md : Region.Mode}
theorem all_listed {listed : Array Bool} (hsz : listed.size = ops.size) (hlt : ∀ (j : Nat) (o : Oper), ops[j]? = some o → ∀ e ∈ o.after, e.on < j) (hr : Region.ready md ops listed = []) : ∀ j, j < ops.size → listed.getD j false = true := by
  intro j
  induction j using Nat.strongRecOn with
  | ind j ih =>
    intro hj
    cases hb : listed.getD j false with
    | true => rfl
    | false =>
      exfalso
      have hm : j ∈ Region.ready md ops listed := mem_ready.2 ⟨by
        have h1 : j < listed.size := by omega
        simp only [Array.getD_eq_getD_getElem?, Array.getElem?_eq_getElem h1, Option.getD_some] at hb ⊢
        exact hb, ops[j], Array.getElem?_eq_getElem hj, fun e he _ => ih e.on (hlt j _ (Array.getElem?_eq_getElem hj) e he) (Nat.lt_trans (hlt j _ (Array.getElem?_eq_getElem hj) e he) hj)⟩
      rw [hr] at hm
      cases hm
theorem wpAny_inv (Inv : Array Bool → Act → World → Prop) (hsz : ∀ listed a w, Inv listed a w → listed.size = ops.size) (hlt : ∀ (j : Nat) (o : Oper), ops[j]? = some o → ∀ e ∈ o.after, e.on < j)
    (hs : ∀ listed a w, Inv listed a w → ∀ i, listed.getD i true = false → (∃ o : Oper, ops[i]? = some o ∧ ∀ e ∈ o.after, Region.binds md e = true → listed.getD e.on false = true) → wpOp P ops Q i (fun a' w' => Inv (listed.setIfInBounds i true) a' w') a w)
    (he : ∀ listed a w, Inv listed a w → (∀ j, j < ops.size → listed.getD j false = true) → Q .normal a w) :
    ∀ (fuel : Nat) (listed : Array Bool) (a : Act) (w : World), listed.toList.count false ≤ fuel → Inv listed a w → wpAny P md ops Q fuel listed a w := by
  intro fuel
  induction fuel with
  | zero =>
    intro listed a w hc hI
    have h0 : Region.ready md ops listed = [] := by
      refine List.eq_nil_iff_forall_not_mem.2 fun i hi => ?_
      have h1 := (mem_ready.1 hi).1
      have hi2 : i < listed.size := by
        rcases Nat.lt_or_ge i listed.size with h | h
        · exact h
        · simp [Array.getD_eq_getD_getElem?, Array.getElem?_eq_none h] at h1
      have hm : false ∈ listed.toList := by
        simp only [Array.getD_eq_getD_getElem?, Array.getElem?_eq_getElem hi2, Option.getD_some] at h1
        rw [← h1]
        exact Array.mem_toList_iff.2 (Array.getElem_mem hi2)
      have := List.count_pos_iff.2 hm
      omega
    exact ⟨h0, he listed a w hI (all_listed (hsz _ _ _ hI) hlt h0)⟩
  | succ fuel ih =>
    intro listed a w hc hI
    refine ⟨fun h0 => he listed a w hI (all_listed (hsz _ _ _ hI) hlt h0), fun i hi => ?_⟩
    obtain ⟨h1, h2⟩ := mem_ready.1 hi
    refine wpOp_mono (fun a' w' hI' => ih _ a' w' ?_ hI') (hs listed a w hI i h1 h2)
    have hi2 : i < listed.size := by
      rcases Nat.lt_or_ge i listed.size with h | h
      · exact h
      · simp [Array.getD_eq_getD_getElem?, Array.getElem?_eq_none h] at h1
    have hi3 : i < listed.toList.length := by simpa using hi2
    have hv : listed.toList[i] = false := by
      simp only [Array.getD_eq_getD_getElem?, Array.getElem?_eq_getElem hi2, Option.getD_some] at h1
      simpa using h1
    have hp : 0 < listed.toList.count false := List.count_pos_iff.2 (by rw [← hv]; exact List.getElem_mem hi3)
    rw [Array.toList_setIfInBounds, List.count_set hi3, hv, if_pos (by decide), if_neg (by decide)]
    omega
theorem wpOp_val {i : Nat} {o : Oper} {a : Act} {w w' : World} {K : Act → World → Prop} {v : Value} (hi : ops[i]? = some o) (hg : o.guard = none) (hr : (execOp a.eval o).run P w = .ok (.value v) w') (h : K (a.put o.dst v) w') : wpOp P ops Q i K a w := by
  unfold wpOp
  simp only [hi]
  rw [if_pos (by unfold Region.wanted; rw [hg])]
  exact .inl (by unfold Oper.wp; rw [hr]; exact h)
theorem wpOp_of {i : Nat} {o : Oper} {a : Act} {w : World} {K : Act → World → Prop} (hi : ops[i]? = some o) (hg : o.guard = none) (h : o.wp P a w K Q) : wpOp P ops Q i K a w := by
  unfold wpOp
  simp only [hi]
  rw [if_pos (by unfold Region.wanted; rw [hg])]
  exact .inl h
theorem wpOp_call {i : Nat} {o : Oper} {a : Act} {w w0 : World} {K : Act → World → Prop} {f : FuncId} {args : Array Value} (hi : ops[i]? = some o) (hg : o.guard = none) (hr : (execOp a.eval o).run P w = .ok (.enter f args) w0) {v : Value} {R : World → Prop} (hc : Calls P f args w0 fun e w' => e = .returned v ∧ R w') (h : ∀ w', R w' → K (a.put o.dst v) w') : wpOp P ops Q i K a w := by
  refine wpOp_of hi hg ?_
  unfold Oper.wp
  rw [hr]
  exact Calls.mono hc (by rintro e w' ⟨rfl, hR⟩; exact h w' hR)
end
theorem eval_same {a : Act} {t : Nat} {v : Value} (h : t < a.tmps.size) : (a.put (some t) v).eval (.tmp t) = v := by
  simp [Act.eval, Act.put, h]
theorem eval_other {a : Act} {t d : Nat} {v : Value} (h : t ≠ d) : (a.put (some d) v).eval (.tmp t) = a.eval (.tmp t) :=
  Act.eval_put (fun e he => by cases he; intro hh; exact h (by cases hh; rfl))
theorem puts_eval (f : Nat → Value) : ∀ (ds : List Nat) (a0 : Act) (t : Nat), t < a0.tmps.size → (ds.foldl (fun b d => b.put (some d) (f d)) a0).eval (.tmp t) = if t ∈ ds then f t else a0.eval (.tmp t)
  | [], a0, t, h => by simp
  | d :: ds, a0, t, h => by
    rw [List.foldl_cons, puts_eval f ds (a0.put (some d) (f d)) t (by simpa [Act.put] using h)]
    by_cases h1 : t ∈ ds
    · simp [h1]
    · by_cases h2 : t = d
      · subst h2
        simp [h1, eval_same h]
      · simp [h1, h2, eval_other h2]
theorem puts_size (f : Nat → Value) : ∀ (ds : List Nat) (a0 : Act), (ds.foldl (fun b d => b.put (some d) (f d)) a0).tmps.size = a0.tmps.size ∧ (ds.foldl (fun b d => b.put (some d) (f d)) a0).defers = a0.defers
  | [], a0 => ⟨rfl, rfl⟩
  | d :: ds, a0 => by
    rw [List.foldl_cons]
    have h := puts_size f ds (a0.put (some d) (f d))
    exact ⟨h.1.trans (by simp [Act.put]), h.2.trans rfl⟩
/-- A frame that differs from another one in certain slots alone. -/
theorem act_puts (ds : List Nat) (a a0 : Act) (hd : a.defers = a0.defers) (hs : a.tmps.size = a0.tmps.size) (h : ∀ t, t ∉ ds → a.eval (.tmp t) = a0.eval (.tmp t)) : a = ds.foldl (fun b d => b.put (some d) (a.eval (.tmp d))) a0 := by
  obtain ⟨z1, z2⟩ := puts_size (fun d => a.eval (.tmp d)) ds a0
  have hp := puts_eval (fun d => a.eval (.tmp d)) ds a0
  generalize ds.foldl (fun b d => b.put (some d) (a.eval (.tmp d))) a0 = b at *
  have ht : a.tmps = b.tmps := by
    apply Array.ext
    · omega
    · intro i h1 h2
      have hx := hp i (by omega)
      have : a.eval (.tmp i) = b.eval (.tmp i) := by
        rw [hx]
        by_cases hm : i ∈ ds
        · simp [hm]
        · simp [hm, h i hm]
      simpa [Act.eval, Array.getElem?_eq_getElem h1, Array.getElem?_eq_getElem h2] using this
  cases a
  cases b
  simp only at ht hd z2
  rw [ht, hd, z2]
/-! ### the cells of a condition, and what the region's operations do -/
def clC (x : Cn) (A : Option Addr) (c : Nat) : List Value := [.int .i64 x.f0, .string x.f1, .int .i64 x.f2.f0, .int .i64 x.f2.f1, .string x.f2.f2, .int .i64 x.f3, .int .i64 x.f4, .slice A x.f5.length c]
def agC (x : Cn) (A : Option Addr) (c : Nat) : Value := .agg (clC x A c).toArray
def cl3 (x y z : Cn) (Ax Ay Az : Option Addr) (cx cy cz : Nat) : Array Value := (clC x Ax cx ++ clC y Ay cy ++ clC z Az cz).toArray
def agK (k : Int) (g n : Nat) : Value := .agg #[.int .i64 k, .string ⟨#[]⟩, .int .i64 0, .int .i64 0, .string ⟨#[]⟩, .int .i64 0, .int .i64 0, .slice (some ⟨g, 0, none⟩) n n]
def bxK (k : Int) (g n : Nat) : Obj := .cells #[.int .i64 k, .string ⟨#[]⟩, .int .i64 0, .int .i64 0, .string ⟨#[]⟩, .int .i64 0, .int .i64 0, .slice (some ⟨g, 0, none⟩) n n] 26 (0, 0)
def bxC (x : Cn) (A : Option Addr) (c : Nat) : Obj := .cells (clC x A c).toArray 26 (0, 0)
theorem infoC : (Tryd.prog.info? 26).map (·.size) = some 8 := by kernel_rfl
section
variable {ρ : Operand → Value} {w : World} {d : Option Tmp} {ty : TypeId} {p : String} {af : Array Edge}
set_option maxRecDepth 100000 in
set_option maxHeartbeats 1000000 in
theorem r5_load {t g : Nat} {x : Cn} {A : Option Addr} {c : Nat} (h : ρ (.tmp t) = .pointer (some ⟨g, 0, none⟩)) (hb : w.heap[g]? = some (bxC x A c)) :
    (execOp ρ { dst := d, op := .load 26 (.tmp t), type := ty, pos := p, after := af, guard := none }).run Tryd.prog w = .ok (.value (agC x A c)) w := by
  unfold bxC clC at hb
  have r0 := cell_of_blk hb (j := 0) rfl
  have r1 := cell_of_blk hb (j := 1) rfl
  have r2 := cell_of_blk hb (j := 2) rfl
  have r3 := cell_of_blk hb (j := 3) rfl
  have r4 := cell_of_blk hb (j := 4) rfl
  have r5 := cell_of_blk hb (j := 5) rfl
  have r6 := cell_of_blk hb (j := 6) rfl
  have r7 := cell_of_blk hb (j := 7) rfl
  simp [execOp, h, go_sem, r0, r1, r2, r3, r4, r5, r6, r7, agC, clC]
set_option maxRecDepth 100000 in
set_option maxHeartbeats 1000000 in
theorem r5_slice {t1 t2 t3 : Nat} {x y z : Cn} {Ax Ay Az : Option Addr} {cx cy cz : Nat} (h1 : ρ (.tmp t1) = agC x Ax cx) (h2 : ρ (.tmp t2) = agC y Ay cy) (h3 : ρ (.tmp t3) = agC z Az cz) :
    (execOp ρ { dst := d, op := .buildSlice 24 3 #[(0, .tmp t1), (1, .tmp t2), (2, .tmp t3)], type := ty, pos := p, after := af, guard := none }).run Tryd.prog w = .ok (.value (.slice (some ⟨w.heap.size, 0, none⟩) 3 3)) (w.alloc (.cells (cl3 x y z Ax Ay Az cx cy cz) 26)) := by
  simp [execOp, h1, h2, h3, go_sem, agC, clC, cl3]
set_option maxRecDepth 100000 in
set_option maxHeartbeats 1000000 in
theorem r5_alloc : (execOp ρ { dst := d, op := .alloc 26, type := ty, pos := p, after := af, guard := none }).run Tryd.prog w = .ok (.value (.pointer (some ⟨w.heap.size, 0, none⟩))) (w.alloc (.cells #[.int .i64 0, .string ⟨#[]⟩, .int .i64 0, .int .i64 0, .string ⟨#[]⟩, .int .i64 0, .int .i64 0, .slice none 0 0] 26)) := by
  simp [execOp, go_sem]
set_option maxRecDepth 100000 in
set_option maxHeartbeats 1000000 in
theorem r5_call {a : Act} {k : Int} {t : Nat} {v : Value} (h : a.eval (.tmp t) = v) : (execOp a.eval { dst := d, op := .call { callee := .value (.func 20), args := #[.const (.int .i64 k), .tmp t], argTypes := #[3, 24] }, type := ty, pos := p, after := af, guard := none }).run Tryd.prog w = .ok (.enter 20 #[.int .i64 k, v]) w := by
  simp [go_sem]
  simpa [Act.eval] using h
end
/-! ### the invariant of region 5 -/
abbrev slots5 : List Nat := [34, 35, 36, 37, 38, 39, 40, 41, 42, 43, 11, 12]
def slot5 (j : Nat) : Nat := slots5.getD j 0
section
variable (x y z : Cn) (Ax Ay Az : Option Addr) (cx cy cz : Nat) (n0 : Nat)
def F5 (j : Nat) (v : Value) (w : World) : Prop :=
  match j with
  | 0 => v = agC x Ax cx
  | 1 => v = agC y Ay cy
  | 2 => v = agC z Az cz
  | 3 => ∃ g, v = .slice (some ⟨g, 0, none⟩) 3 3 ∧ w.heap[g]? = some (.cells (cl3 x y z Ax Ay Az cx cy cz) 26 (0, 0))
  | 4 => ∃ g, v = agK 7 g 3 ∧ w.heap[g]? = some (.cells (cl3 x y z Ax Ay Az cx cy cz) 26 (0, 0))
  | 5 => v = agC x Ax cx
  | 6 => v = agC y Ay cy
  | 7 => v = agC z Az cz
  | 8 => ∃ g, v = .slice (some ⟨g, 0, none⟩) 3 3 ∧ w.heap[g]? = some (.cells (cl3 x y z Ax Ay Az cx cy cz) 26 (0, 0))
  | 9 => ∃ g, v = agK 8 g 3 ∧ w.heap[g]? = some (.cells (cl3 x y z Ax Ay Az cx cy cz) 26 (0, 0))
  | 10 => ∃ b, v = .pointer (some ⟨b, 0, none⟩) ∧ n0 ≤ b ∧ ∃ cs : Array Value, w.heap[b]? = some (.cells cs 26 (0, 0)) ∧ cs.size = 8
  | 11 => ∃ b, v = .pointer (some ⟨b, 0, none⟩) ∧ n0 ≤ b ∧ ∃ cs : Array Value, w.heap[b]? = some (.cells cs 26 (0, 0)) ∧ cs.size = 8
  | _ => True
def G5 (k : Int) (v : Value) (w : World) : Prop := ∃ b g, v = .pointer (some ⟨b, 0, none⟩) ∧ n0 ≤ b ∧ w.heap[b]? = some (bxK k g 3) ∧ w.heap[g]? = some (.cells (cl3 x y z Ax Ay Az cx cy cz) 26 (0, 0))
end
section
variable {x y z : Cn} {Ax Ay Az : Option Addr} {cx cy cz : Nat} {n0 : Nat}
theorem F5.grow {j : Nat} {v : Value} {w w' : World} (h : F5 x y z Ax Ay Az cx cy cz n0 j v w) (hg : ∀ b, b < w.heap.size → w'.heap[b]? = w.heap[b]?) : F5 x y z Ax Ay Az cx cy cz n0 j v w' := by
  have lt : ∀ (g : Nat) (o : Obj), w.heap[g]? = some o → w'.heap[g]? = some o := fun g o ho => (hg g (Array.getElem?_eq_some_iff.1 ho).1).trans ho
  unfold F5 at *
  split at h
  any_goals exact h
  all_goals (first | (obtain ⟨g, h1, h2⟩ := h; exact ⟨g, h1, lt _ _ h2⟩) | (obtain ⟨g, h1, h2, cs, h3, h4⟩ := h; exact ⟨g, h1, h2, cs, lt _ _ h3, h4⟩))
theorem G5.grow {k : Int} {v : Value} {w w' : World} (h : G5 x y z Ax Ay Az cx cy cz n0 k v w) (hg : ∀ b, b < w.heap.size → w'.heap[b]? = w.heap[b]?) : G5 x y z Ax Ay Az cx cy cz n0 k v w' := by
  obtain ⟨b, g, h1, h2, h3, h4⟩ := h
  exact ⟨b, g, h1, h2, (hg b (Array.getElem?_eq_some_iff.1 h3).1).trans h3, (hg g (Array.getElem?_eq_some_iff.1 h4).1).trans h4⟩
theorem cl3_size : (cl3 x y z Ax Ay Az cx cy cz).size = 24 := rfl
theorem not_cl3 {w : World} {g b : Nat} {old : Array Value} (h1 : w.heap[g]? = some (.cells (cl3 x y z Ax Ay Az cx cy cz) 26 (0, 0))) (h2 : w.heap[b]? = some (.cells old 26 (0, 0))) (h3 : old.size = 8) : g ≠ b := by
  rintro rfl
  rw [h1] at h2
  have := (Obj.cells.inj (Option.some.inj h2)).1
  rw [← this, cl3_size] at h3
  omega
theorem F5.store {j : Nat} {v : Value} {w : World} {b : Nat} {old cs : Array Value} (h : F5 x y z Ax Ay Az cx cy cz n0 j v w) (hb : w.heap[b]? = some (.cells old 26 (0, 0))) (ho : old.size = 8) (hc : cs.size = 8) : F5 x y z Ax Ay Az cx cy cz n0 j v (w.setRow b cs) := by
  unfold F5 at *
  split at h
  any_goals exact h
  all_goals first
    | (obtain ⟨g, h1, h2⟩ := h; exact ⟨g, h1, (setRow_other w b g cs (not_cl3 h2 hb ho)).trans h2⟩)
    | (obtain ⟨g, h1, h2, c2, h3, h4⟩ := h
       rcases Nat.decEq g b with hne | rfl
       · exact ⟨g, h1, h2, c2, (setRow_other w b g cs hne).trans h3, h4⟩
       · exact ⟨g, h1, h2, cs, setRow_heap w g old cs _ _ hb, hc⟩)
end
section
variable {x y z : Cn} {Ax Ay Az : Option Addr} {cx cy cz : Nat} {a0 : Act} {wr : World}
structure I5 (x y z : Cn) (Ax Ay Az : Option Addr) (cx cy cz : Nat) (a0 : Act) (wr : World) (listed : Array Bool) (a : Act) (w : World) : Prop where
  sz : listed.size = 14
  df : a.defers = a0.defers
  ts : a.tmps.size = a0.tmps.size
  same : ∀ t, t ∉ slots5 → a.eval (.tmp t) = a0.eval (.tmp t)
  fs : ∀ j, j < 12 → listed.getD j false = true → F5 x y z Ax Ay Az cx cy cz wr.heap.size j (a.eval (.tmp (slot5 j))) w
  g7 : listed.getD 12 false = true → G5 x y z Ax Ay Az cx cy cz wr.heap.size 7 (a.eval (.tmp 11)) w
  g8 : listed.getD 13 false = true → G5 x y z Ax Ay Az cx cy cz wr.heap.size 8 (a.eval (.tmp 12)) w
  o12 : listed.getD 12 false = true → listed.getD 10 false = true ∧ listed.getD 11 false = true
  o13 : listed.getD 13 false = true → listed.getD 12 false = true
  ne : listed.getD 10 false = true → listed.getD 11 false = true → a.eval (.tmp 11) ≠ a.eval (.tmp 12)
  bl : Below wr.heap.size wr w
theorem on_set {listed : Array Bool} {i j : Nat} (h : (listed.setIfInBounds i true).getD j false = true) : j = i ∨ listed.getD j false = true := by
  by_cases hji : i = j
  · exact .inl hji.symm
  · rw [getD_set_ne false hji] at h
    exact .inr h
theorem off_on {listed : Array Bool} {i : Nat} (h : listed.getD i true = false) (h2 : listed.getD i false = true) : False := by
  rcases Nat.lt_or_ge i listed.size with hi | hi
  · simp only [Array.getD_eq_getD_getElem?, Array.getElem?_eq_getElem hi, Option.getD_some] at h h2
    rw [h] at h2
    cases h2
  · simp [Array.getD_eq_getD_getElem?, Array.getElem?_eq_none hi] at h
theorem set_on {listed : Array Bool} {i j : Nat} (h : listed.getD j false = true) : (listed.setIfInBounds i true).getD j false = true := by
  by_cases hji : i = j
  · subst hji
    rcases Nat.lt_or_ge i listed.size with hi | hi
    · simp [hi]
    · simp [Array.getElem?_eq_none hi] at h
  · rw [getD_set_ne false hji]
    exact h
theorem slot_inj : ∀ i, i < 12 → ∀ j, j < 12 → slot5 i = slot5 j → i = j := by decide
theorem slot_mem : ∀ i, i < 12 → slot5 i ∈ slots5 := by decide
theorem slot_lt : ∀ i, i < 12 → slot5 i < 44 := by decide
theorem slot_11 : ∀ i, i < 12 → i ≠ 10 → 11 ≠ slot5 i := by decide
theorem slot_12 : ∀ i, i < 12 → i ≠ 11 → 12 ≠ slot5 i := by decide
theorem I5.val {listed : Array Bool} {a : Act} {w w' : World} {i : Nat} {v : Value} (h : I5 x y z Ax Ay Az cx cy cz a0 wr listed a w) (hz : 43 < a0.tmps.size) (hi : i < 12) (hoff : listed.getD i true = false) (hg : ∀ b, b < w.heap.size → w'.heap[b]? = w.heap[b]?) (hb : Below wr.heap.size wr w') (hF : F5 x y z Ax Ay Az cx cy cz wr.heap.size i v w') (hn : 10 ≤ i → v = .pointer (some ⟨w.heap.size, 0, none⟩)) :
    I5 x y z Ax Ay Az cx cy cz a0 wr (listed.setIfInBounds i true) (a.put (some (slot5 i)) v) w' := by
  have hts := h.ts
  have hlt := slot_lt i hi
  refine ⟨by simp [h.sz], h.df, by simp [Act.put, h.ts], fun t ht => ?_, fun j hj hon => ?_, fun hon => ?_, fun hon => ?_, fun hon => ?_, fun hon => ?_, fun h10 h11 => ?_, hb⟩
  · rw [eval_other (by rintro rfl; exact ht (slot_mem i hi))]
    exact h.same t ht
  · by_cases hji : j = i
    · subst hji
      rw [eval_same (by omega)]
      exact hF
    · rw [eval_other (fun e => hji (slot_inj j hj i hi e))]
      exact ((h.fs j hj ((on_set hon).resolve_left hji)).grow hg)
  · have h1 := (on_set hon).resolve_left (by omega)
    obtain ⟨k1, k2⟩ := h.o12 h1
    rw [eval_other (slot_11 i hi (by rintro rfl; exact off_on hoff k1))]
    exact (h.g7 h1).grow hg
  · have h1 := (on_set hon).resolve_left (by omega)
    obtain ⟨k1, k2⟩ := h.o12 (h.o13 h1)
    rw [eval_other (slot_12 i hi (by rintro rfl; exact off_on hoff k2))]
    exact (h.g8 h1).grow hg
  · have h1 := (on_set hon).resolve_left (by omega)
    exact ⟨set_on (h.o12 h1).1, set_on (h.o12 h1).2⟩
  · exact set_on (h.o13 ((on_set hon).resolve_left (by omega)))
  · by_cases e10 : i = 10
    · subst e10
      have k11 := (on_set h11).resolve_left (by omega)
      obtain ⟨b, hb1, _, cs, hb2, _⟩ := h.fs 11 (by omega) k11
      have e1 : (a.put (some (slot5 10)) v).eval (.tmp 11) = v := eval_same (t := 11) (by omega)
      have e2 : (a.put (some (slot5 10)) v).eval (.tmp 12) = a.eval (.tmp 12) := eval_other (slot_12 10 (by omega) (by omega))
      have e3 : a.eval (.tmp 12) = .pointer (some ⟨b, 0, none⟩) := hb1
      rw [e1, e2, e3, hn (by omega)]
      have := (Array.getElem?_eq_some_iff.1 hb2).1
      intro he
      cases he
      omega
    · by_cases e11 : i = 11
      · subst e11
        have k10 := (on_set h10).resolve_left (by omega)
        obtain ⟨b, hb1, _, cs, hb2, _⟩ := h.fs 10 (by omega) k10
        have e1 : (a.put (some (slot5 11)) v).eval (.tmp 12) = v := eval_same (t := 12) (by omega)
        have e2 : (a.put (some (slot5 11)) v).eval (.tmp 11) = a.eval (.tmp 11) := eval_other (slot_11 11 (by omega) (by omega))
        have e3 : a.eval (.tmp 11) = .pointer (some ⟨b, 0, none⟩) := hb1
        rw [e1, e2, e3, hn (by omega)]
        have := (Array.getElem?_eq_some_iff.1 hb2).1
        intro he
        cases he
        omega
      · rw [eval_other (slot_11 i hi e10), eval_other (slot_12 i hi e11)]
        exact h.ne ((on_set h10).resolve_left (fun e => e10 e.symm)) ((on_set h11).resolve_left (fun e => e11 e.symm))
theorem below_row {B : Nat} {w W : World} {g : Nat} {cs : Array Value} (h : Below B w W) (hg : B ≤ g) : Below B w (W.setRow g cs) := ⟨h.os, h.tape, h.output, by rw [setRow_size]; exact h.size, fun k hk => (setRow_other W g k cs (by omega)).trans (h.block k hk)⟩
theorem I5.store7 {P : Program} {ops : Array Oper} {Q : Exit → Act → World → Prop} {o : Oper} {listed : Array Bool} {a : Act} {w : World} (hi8 : (P.info? 26).map (·.size) = some 8) (h : I5 x y z Ax Ay Az cx cy cz a0 wr listed a w) (hoff : listed.getD 12 true = false) (h4 : listed.getD 4 false = true) (h10 : listed.getD 10 false = true) (h11 : listed.getD 11 false = true) (ho : ops[12]? = some o) (hg : o.guard = none) (hop : o.op = .store 26 (.tmp 11) (.tmp 38)) (hd : o.dst = none) :
    wpOp P ops Q 12 (fun a' w' => I5 x y z Ax Ay Az cx cy cz a0 wr (listed.setIfInBounds 12 true) a' w') a w := by
  obtain ⟨b, e11, hb, cs, hcs, hsz⟩ := h.fs 10 (by omega) h10
  obtain ⟨g, e38, hgg⟩ := h.fs 4 (by omega) h4
  refine wpOp_of ho hg (wp_store_row _ _ _ hop b _ e11 e38 _ cs hcs hi8 hsz (by kernel_rfl) ?_)
  rw [hd]
  refine ⟨by simp [h.sz], h.df, h.ts, h.same, fun j hj hon => ?_, fun _ => ?_, fun hon => ?_, fun _ => ⟨set_on h10, set_on h11⟩, fun hon => ?_, fun k10 k11 => h.ne h10 h11, below_row h.bl hb⟩
  · exact (h.fs j hj ((on_set hon).resolve_left (by omega))).store hcs hsz rfl
  · exact ⟨b, g, e11, hb, setRow_heap w b cs _ _ _ hcs, (setRow_other w b g _ (not_cl3 hgg hcs hsz)).trans hgg⟩
  · exact (off_on hoff (h.o13 ((on_set hon).resolve_left (by omega)))).elim
  · exact (off_on hoff (h.o13 ((on_set hon).resolve_left (by omega)))).elim
theorem I5.store8 {P : Program} {ops : Array Oper} {Q : Exit → Act → World → Prop} {o : Oper} {listed : Array Bool} {a : Act} {w : World} (hi8 : (P.info? 26).map (·.size) = some 8) (h : I5 x y z Ax Ay Az cx cy cz a0 wr listed a w) (hoff : listed.getD 13 true = false) (h9 : listed.getD 9 false = true) (h12 : listed.getD 12 false = true) (ho : ops[13]? = some o) (hg : o.guard = none) (hop : o.op = .store 26 (.tmp 12) (.tmp 43)) (hd : o.dst = none) :
    wpOp P ops Q 13 (fun a' w' => I5 x y z Ax Ay Az cx cy cz a0 wr (listed.setIfInBounds 13 true) a' w') a w := by
  obtain ⟨h10, h11⟩ := h.o12 h12
  obtain ⟨b, e12, hb, cs, hcs, hsz⟩ := h.fs 11 (by omega) h11
  obtain ⟨g, e43, hgg⟩ := h.fs 9 (by omega) h9
  refine wpOp_of ho hg (wp_store_row _ _ _ hop b _ e12 e43 _ cs hcs hi8 hsz (by kernel_rfl) ?_)
  rw [hd]
  have hne := h.ne h10 h11
  refine ⟨by simp [h.sz], h.df, h.ts, h.same, fun j hj hon => ?_, fun _ => ?_, fun _ => ?_, fun _ => ⟨set_on h10, set_on h11⟩, fun _ => set_on h12, fun k10 k11 => hne, below_row h.bl hb⟩
  · exact (h.fs j hj ((on_set hon).resolve_left (by omega))).store hcs hsz rfl
  · obtain ⟨b7, g7, e7, hb7, hx7, hy7⟩ := h.g7 h12
    have e12' : a.eval (.tmp 12) = .pointer (some ⟨b, 0, none⟩) := e12
    have hbb : b7 ≠ b := by
      rintro rfl
      exact hne (e7.trans e12'.symm)
    exact ⟨b7, g7, e7, hb7, (setRow_other w b b7 _ hbb).trans hx7, (setRow_other w b g7 _ (not_cl3 hy7 hcs hsz)).trans hy7⟩
  · exact ⟨b, g, e12, hb, setRow_heap w b cs _ _ _ hcs, (setRow_other w b g _ (not_cl3 hgg hcs hsz)).trans hgg⟩
end
theorem onlyBack {ops : Array Oper} (h : ((List.range ops.size).all fun j => ((ops[j]?).map fun o => o.after.all fun e => decide (e.on < j)).getD true) = true) (j : Nat) (o : Oper) (ho : ops[j]? = some o) (e : Edge) (he : e ∈ o.after) : e.on < j := by
  have hj := (Array.getElem?_eq_some_iff.1 ho).1
  have h1 := List.all_eq_true.1 h j (List.mem_range.2 hj)
  rw [ho] at h1
  simp only [Option.map_some, Option.getD_some, Array.all_eq_true_iff_forall_mem] at h1
  exact of_decide_eq_true (h1 e he)
theorem wp_region_inv {P : Program} {id : Nat} {ops : Array Oper} {Q : Exit → Act → World → Prop} {a : Act} {w : World} (hm : P.follows .mixedOrders = true) (Inv : Array Bool → Act → World → Prop) (h0 : Inv (Array.replicate ops.size false) a w.drew) (hsz : ∀ listed a w, Inv listed a w → listed.size = ops.size) (hlt : ((List.range ops.size).all fun j => ((ops[j]?).map fun o => o.after.all fun e => decide (e.on < j)).getD true) = true)
    (hs : ∀ listed a w, Inv listed a w → ∀ i, listed.getD i true = false → (∃ o : Oper, ops[i]? = some o ∧ ∀ e ∈ o.after, Region.binds .any e = true → listed.getD e.on false = true) → wpOp P ops Q i (fun a' w' => Inv (listed.setIfInBounds i true) a' w') a w)
    (he : ∀ listed a w, Inv listed a w → (∀ j, j < ops.size → listed.getD j false = true) → Q .normal a w) : (Code.region id ops true).wp P Q a w :=
  wp_region_any hm (wpAny_inv Inv hsz (onlyBack hlt) hs he _ _ _ _ (by simp) h0)
section
variable {x y z : Cn} {Ax Ay Az : Option Addr} {cx cy cz : Nat} {a0 : Act} {wr : World} {ops : Array Oper} {Q : Exit → Act → World → Prop} {o : Oper} {listed : Array Bool} {a : Act} {w : World}
theorem I5.start : I5 x y z Ax Ay Az cx cy cz a0 wr (Array.replicate 14 false) a0 wr.drew :=
  ⟨by simp, rfl, rfl, fun _ _ => rfl, fun j hj h => by simp [Array.getD_eq_getD_getElem?, show j < 14 by omega] at h, fun h => by simp at h, fun h => by simp at h, fun h => by simp at h, fun h => by simp at h, fun h => by simp at h, below_drew (Below.refl _ _)⟩
theorem I5.load {i t g : Nat} {q : Cn} {Aq : Option Addr} {cq : Nat} (h : I5 x y z Ax Ay Az cx cy cz a0 wr listed a w) (hz : 43 < a0.tmps.size) (hoff : listed.getD i true = false) (ho : ops[i]? = some o) (hg : o.guard = none) (hi : i < 10) (ht : t ∉ slots5) (h0 : a0.eval (.tmp t) = .pointer (some ⟨g, 0, none⟩)) (hb : wr.heap[g]? = some (bxC q Aq cq)) (hop : o.op = .load 26 (.tmp t)) (hd : o.dst = some (slot5 i)) (hF : F5 x y z Ax Ay Az cx cy cz wr.heap.size i (agC q Aq cq) w) : wpOp Tryd.prog ops Q i (fun a' w' => I5 x y z Ax Ay Az cx cy cz a0 wr (listed.setIfInBounds i true) a' w') a w := by
  obtain ⟨d, op, ty, p, af, gd⟩ := o
  dsimp only at hg hop hd
  subst hg hop hd
  exact wpOp_val ho rfl (r5_load ((h.same t ht).trans h0) ((h.bl.block g (Array.getElem?_eq_some_iff.1 hb).1).trans hb)) (h.val hz (by omega) hoff (fun _ _ => rfl) h.bl hF (by omega))
theorem I5.slice3 (h : I5 x y z Ax Ay Az cx cy cz a0 wr listed a w) (hz : 43 < a0.tmps.size) (hoff : listed.getD 3 true = false) (ho : ops[3]? = some o) (hg : o.guard = none) (h0 : listed.getD 0 false = true) (h1 : listed.getD 1 false = true) (h2 : listed.getD 2 false = true) (hop : o.op = .buildSlice 24 3 #[(0, .tmp 34), (1, .tmp 35), (2, .tmp 36)]) (hd : o.dst = some 37) : wpOp Tryd.prog ops Q 3 (fun a' w' => I5 x y z Ax Ay Az cx cy cz a0 wr (listed.setIfInBounds 3 true) a' w') a w := by
  obtain ⟨d, op, ty, p, af, gd⟩ := o
  dsimp only at hg hop hd
  subst hg hop hd
  exact wpOp_val ho rfl (r5_slice (h.fs 0 (by omega) h0) (h.fs 1 (by omega) h1) (h.fs 2 (by omega) h2)) (h.val hz (i := 3) (by omega) hoff (fun b hb => Below.heap_alloc _ _ _ hb) (h.bl.alloc h.bl.size _) ⟨_, rfl, World.alloc_heap_new _ _⟩ (by omega))
theorem I5.slice8 (h : I5 x y z Ax Ay Az cx cy cz a0 wr listed a w) (hz : 43 < a0.tmps.size) (hoff : listed.getD 8 true = false) (ho : ops[8]? = some o) (hg : o.guard = none) (h0 : listed.getD 5 false = true) (h1 : listed.getD 6 false = true) (h2 : listed.getD 7 false = true) (hop : o.op = .buildSlice 24 3 #[(0, .tmp 39), (1, .tmp 40), (2, .tmp 41)]) (hd : o.dst = some 42) : wpOp Tryd.prog ops Q 8 (fun a' w' => I5 x y z Ax Ay Az cx cy cz a0 wr (listed.setIfInBounds 8 true) a' w') a w := by
  obtain ⟨d, op, ty, p, af, gd⟩ := o
  dsimp only at hg hop hd
  subst hg hop hd
  exact wpOp_val ho rfl (r5_slice (h.fs 5 (by omega) h0) (h.fs 6 (by omega) h1) (h.fs 7 (by omega) h2)) (h.val hz (i := 8) (by omega) hoff (fun b hb => Below.heap_alloc _ _ _ hb) (h.bl.alloc h.bl.size _) ⟨_, rfl, World.alloc_heap_new _ _⟩ (by omega))
theorem I5.of4 (h : I5 x y z Ax Ay Az cx cy cz a0 wr listed a w) (hz : 43 < a0.tmps.size) (hoff : listed.getD 4 true = false) (ho : ops[4]? = some o) (hg : o.guard = none) (h3 : listed.getD 3 false = true) (hop : o.op = .call { callee := .value (.func 20), args := #[.const (.int .i64 7), .tmp 37], argTypes := #[3, 24] }) (hd : o.dst = some 38) : wpOp Tryd.prog ops Q 4 (fun a' w' => I5 x y z Ax Ay Az cx cy cz a0 wr (listed.setIfInBounds 4 true) a' w') a w := by
  obtain ⟨d, op, ty, p, af, gd⟩ := o
  dsimp only at hg hop hd
  subst hg hop hd
  obtain ⟨g, e, hgg⟩ := h.fs 3 (by omega) h3
  exact wpOp_call ho rfl (r5_call e) (of16_calls _ _ _ _ _) (fun w' hB => h.val hz (i := 4) (by omega) hoff (fun b hb => hB.block b hb) (h.bl.trans (hB.mono h.bl.size)) ⟨g, rfl, (hB.block g (Array.getElem?_eq_some_iff.1 hgg).1).trans hgg⟩ (by omega))
theorem I5.of9 (h : I5 x y z Ax Ay Az cx cy cz a0 wr listed a w) (hz : 43 < a0.tmps.size) (hoff : listed.getD 9 true = false) (ho : ops[9]? = some o) (hg : o.guard = none) (h3 : listed.getD 8 false = true) (hop : o.op = .call { callee := .value (.func 20), args := #[.const (.int .i64 8), .tmp 42], argTypes := #[3, 24] }) (hd : o.dst = some 43) : wpOp Tryd.prog ops Q 9 (fun a' w' => I5 x y z Ax Ay Az cx cy cz a0 wr (listed.setIfInBounds 9 true) a' w') a w := by
  obtain ⟨d, op, ty, p, af, gd⟩ := o
  dsimp only at hg hop hd
  subst hg hop hd
  obtain ⟨g, e, hgg⟩ := h.fs 8 (by omega) h3
  exact wpOp_call ho rfl (r5_call e) (of16_calls _ _ _ _ _) (fun w' hB => h.val hz (i := 9) (by omega) hoff (fun b hb => hB.block b hb) (h.bl.trans (hB.mono h.bl.size)) ⟨g, rfl, (hB.block g (Array.getElem?_eq_some_iff.1 hgg).1).trans hgg⟩ (by omega))
theorem I5.new {i : Nat} (h : I5 x y z Ax Ay Az cx cy cz a0 wr listed a w) (hz : 43 < a0.tmps.size) (hoff : listed.getD i true = false) (ho : ops[i]? = some o) (hg : o.guard = none) (hi : i = 10 ∨ i = 11) (hop : o.op = .alloc 26) (hd : o.dst = some (slot5 i)) : wpOp Tryd.prog ops Q i (fun a' w' => I5 x y z Ax Ay Az cx cy cz a0 wr (listed.setIfInBounds i true) a' w') a w := by
  obtain ⟨d, op, ty, p, af, gd⟩ := o
  dsimp only at hg hop hd
  subst hg hop hd
  refine wpOp_val ho rfl r5_alloc (h.val hz (by omega) hoff (fun b hb => Below.heap_alloc _ _ _ hb) (h.bl.alloc h.bl.size _) ?_ (fun _ => rfl))
  rcases hi with rfl | rfl
  · exact ⟨_, rfl, h.bl.size, _, World.alloc_heap_new _ _, rfl⟩
  · exact ⟨_, rfl, h.bl.size, _, World.alloc_heap_new _ _, rfl⟩
end
/-! ### lists of conditions in blocks -/
theorem blk3 {W : World} {g : Nat} (x y z : Cn) {Ax Ay Az : Option Addr} {cx cy cz : Nat} (h1 : Kd.C k26 W Ax x.f5.length x.f5) (n1 : x.f5.length ≤ cx) (h2 : Kd.C k26 W Ay y.f5.length y.f5) (n2 : y.f5.length ≤ cy) (h3 : Kd.C k26 W Az z.f5.length z.f5) (n3 : z.f5.length ≤ cz) (hb : W.heap[g]? = some (.cells (cl3 x y z Ax Ay Az cx cy cz) 26 (0, 0))) : Kd.C k26 W (some ⟨g, 0, none⟩) 3 [x, y, z] :=
  C_of_block k26 hb (Reps.snoc (Reps.snoc (Reps.snoc (Reps.none _ _) (k26_mk W x n1 h1) rfl) (k26_mk W y n2 h2) rfl) (k26_mk W z n3 h3) rfl) (by simp)
theorem blk4 {W : World} {g : Nat} (x y z u : Cn) {Ax Ay Az Au : Option Addr} {cx cy cz cu : Nat} (h1 : Kd.C k26 W Ax x.f5.length x.f5) (n1 : x.f5.length ≤ cx) (h2 : Kd.C k26 W Ay y.f5.length y.f5) (n2 : y.f5.length ≤ cy) (h3 : Kd.C k26 W Az z.f5.length z.f5) (n3 : z.f5.length ≤ cz) (h4 : Kd.C k26 W Au u.f5.length u.f5) (n4 : u.f5.length ≤ cu) (hb : W.heap[g]? = some (.cells (clC x Ax cx ++ clC y Ay cy ++ clC z Az cz ++ clC u Au cu).toArray 26 (0, 0))) : Kd.C k26 W (some ⟨g, 0, none⟩) 4 [x, y, z, u] :=
  C_of_block k26 hb (Reps.snoc (Reps.snoc (Reps.snoc (Reps.snoc (Reps.none _ _) (k26_mk W x n1 h1) rfl) (k26_mk W y n2 h2) rfl) (k26_mk W z n3 h3) rfl) (k26_mk W u n4 h4) rfl) (by simp)
theorem sm3 {x y z : Cn} (h1 : Small x) (h2 : Small y) (h3 : Small z) : ∀ u ∈ [x, y, z], Small u := by
  intro u hu
  simp only [List.mem_cons, List.mem_nil_iff, or_false] at hu
  rcases hu with rfl | rfl | rfl <;> assumption
theorem sm4 {x y z v : Cn} (h1 : Small x) (h2 : Small y) (h3 : Small z) (h4 : Small v) : ∀ u ∈ [x, y, z, v], Small u := by
  intro u hu
  simp only [List.mem_cons, List.mem_nil_iff, or_false] at hu
  rcases hu with rfl | rfl | rfl | rfl <;> assumption
theorem nots3 {W1 W2 W3 : World} {g1 g2 g3 : Nat} {x y z : Cn} (h1 : Kd.C k26 W1 (some ⟨g1, 0, none⟩) 1 [x]) (h2 : Kd.C k26 W2 (some ⟨g2, 0, none⟩) 1 [y]) (h3 : Kd.C k26 W3 (some ⟨g3, 0, none⟩) 1 [z]) (b1 : Below W1.heap.size W1 W2) (b2 : Below W2.heap.size W2 W3) :
    Kd.C k26 (W3.alloc (.cells #[.int .i64 6, .string ⟨#[]⟩, .int .i64 0, .int .i64 0, .string ⟨#[]⟩, .int .i64 0, .int .i64 0, .slice (some ⟨g1, 0, none⟩) 1 1, .int .i64 6, .string ⟨#[]⟩, .int .i64 0, .int .i64 0, .string ⟨#[]⟩, .int .i64 0, .int .i64 0, .slice (some ⟨g2, 0, none⟩) 1 1, .int .i64 6, .string ⟨#[]⟩, .int .i64 0, .int .i64 0, .string ⟨#[]⟩, .int .i64 0, .int .i64 0, .slice (some ⟨g3, 0, none⟩) 1 1] 26)) (some ⟨W3.heap.size, 0, none⟩) 3 [notC x, notC y, notC z] := by
  have b3 := (Below.refl W3.heap.size W3).alloc (Nat.le_refl _) (.cells #[.int .i64 6, .string ⟨#[]⟩, .int .i64 0, .int .i64 0, .string ⟨#[]⟩, .int .i64 0, .int .i64 0, .slice (some ⟨g1, 0, none⟩) 1 1, .int .i64 6, .string ⟨#[]⟩, .int .i64 0, .int .i64 0, .string ⟨#[]⟩, .int .i64 0, .int .i64 0, .slice (some ⟨g2, 0, none⟩) 1 1, .int .i64 6, .string ⟨#[]⟩, .int .i64 0, .int .i64 0, .string ⟨#[]⟩, .int .i64 0, .int .i64 0, .slice (some ⟨g3, 0, none⟩) 1 1] 26)
  exact blk3 (notC x) (notC y) (notC z) (Kd.C_below (Kd.C_below (Kd.C_below h1 b1) b2) b3) (Nat.le_refl 1) (Kd.C_below (Kd.C_below h2 b2) b3) (Nat.le_refl 1) (Kd.C_below h3 b3) (Nat.le_refl 1) (World.alloc_heap_new W3 _)
theorem four {B W : World} {cs : Array Value} {t : TypeId} (x y z u : Cn) {Ax Ay Az Au : Option Addr} {cx cy cz cu : Nat} (h1 : Kd.C k26 B Ax x.f5.length x.f5) (n1 : x.f5.length ≤ cx) (h2 : Kd.C k26 B Ay y.f5.length y.f5) (n2 : y.f5.length ≤ cy) (h3 : Kd.C k26 B Az z.f5.length z.f5) (n3 : z.f5.length ≤ cz) (h4 : Kd.C k26 B Au u.f5.length u.f5) (n4 : u.f5.length ≤ cu) (ht : t = 26) (hcs : cs = (clC x Ax cx ++ clC y Ay cy ++ clC z Az cz ++ clC u Au cu).toArray) (b : Below B.heap.size B (W.alloc (.cells cs t))) :
    Kd.C k26 (W.alloc (.cells cs t)) (some ⟨W.heap.size, 0, none⟩) 4 [x, y, z, u] := by
  subst ht
  exact blk4 x y z u (Kd.C_below h1 b) n1 (Kd.C_below h2 b) n2 (Kd.C_below h3 b) n3 (Kd.C_below h4 b) n4 ((World.alloc_heap_new W _).trans (by rw [hcs]))
theorem fourD {B W : World} {cs : Array Value} {t : TypeId} (x y z u : Cn) {Ax Ay Az Au : Option Addr} {cx cy cz cu : Nat} (h1 : Kd.C k26 B Ax x.f5.length x.f5) (n1 : x.f5.length ≤ cx) (h2 : Kd.C k26 B Ay y.f5.length y.f5) (n2 : y.f5.length ≤ cy) (h3 : Kd.C k26 B Az z.f5.length z.f5) (n3 : z.f5.length ≤ cz) (h4 : Kd.C k26 B Au u.f5.length u.f5) (n4 : u.f5.length ≤ cu) (ht : t = 26) (hcs : cs = (clC x Ax cx ++ clC y Ay cy ++ clC z Az cz ++ clC u Au cu).toArray) (b : Below B.heap.size B (W.alloc (.cells cs t)).drew) :
    Kd.C k26 (W.alloc (.cells cs t)).drew (some ⟨W.heap.size, 0, none⟩) 4 [x, y, z, u] := by
  exact Kd.C_drew (four x y z u h1 n1 h2 n2 h3 n3 h4 n4 ht hcs ⟨b.os, b.tape, b.output, b.size, b.block⟩)
theorem wrap_as (n : Int) : IntKind.i64.wrap n = wrap64 n := by
  unfold wrap64
  exact IntKind.wrap_i64 n
end Go.Proofs.YthaofmbjkdikbaaDoor.F
namespace Go.Proofs.YthaofmbjkdikbaaDoor.F
open Go.RowKit Go.Lib Go.Sort Go.Shelf Go.Proofs.YthaofmbjkdikbaaDoorW.PrintWords Go.Proofs.YthaofmbjkdikbaaDoor.PAll Go.Proofs.YthaofmbjkdikbaaDoor.V
set_option linter.unusedVariables false
/-- What stands behind the first so many statements of a code. -/
noncomputable def tailC : Nat → Code → Code
  | 0, c => c
  | n + 1, .seq _ b => tailC n b
  | _, c => c
noncomputable def body5 : Code := (Tryd.f5.body).getD .skip
structure St (ka : Int) (na : ByteArray) (ua0 : Int) (ua1 : Int) (ua2 : ByteArray) (loa : Int) (hia : Int) (la : List Cn) (Aa : Option Addr) (ca : Nat) (kb : Int) (nb : ByteArray) (ub0 : Int) (ub1 : Int) (ub2 : ByteArray) (lob : Int) (hib : Int) (lb : List Cn) (Ab : Option Addr) (cb : Nat) (kc : Int) (nc : ByteArray) (uc0 : Int) (uc1 : Int) (uc2 : ByteArray) (loc : Int) (hic : Int) (lc : List Cn) (Ac : Option Addr) (cc : Nat) (id : Int) (A1 : Option Addr) (c1 : Nat) (vs : List S92) (A2 : Option Addr) (c2 : Nat) (fs : List Fi) (ga gb gc pp : Nat) (x y z : Bool) (w0 w : World) : Prop where
  ba : w.heap[ga]? = some (.cells #[.int .i64 ka, .string na, .int .i64 ua0, .int .i64 ua1, .string ua2, .int .i64 loa, .int .i64 hia, .slice Aa la.length ca] 26 (0, 0))
  bb : w.heap[gb]? = some (.cells #[.int .i64 kb, .string nb, .int .i64 ub0, .int .i64 ub1, .string ub2, .int .i64 lob, .int .i64 hib, .slice Ab lb.length cb] 26 (0, 0))
  bc : w.heap[gc]? = some (.cells #[.int .i64 kc, .string nc, .int .i64 uc0, .int .i64 uc1, .string uc2, .int .i64 loc, .int .i64 hic, .slice Ac lc.length cc] 26 (0, 0))
  bp : w.heap[pp]? = some (.cells #[.int .i64 id, .slice A1 vs.length c1, .slice A2 fs.length c2] 30 (0, 0))
  ca' : Kd.C k26 w Aa la.length la
  cb' : Kd.C k26 w Ab lb.length lb
  cc' : Kd.C k26 w Ac lc.length lc
  cf : Kd.C k62 w A2 fs.length fs
  na' : la.length ≤ ca
  nb' : lb.length ≤ cb
  nc' : lc.length ≤ cc
  nf : fs.length ≤ c2
  nf2 : fs.length ≤ 1048576
  sa : Small (⟨ka, na, ⟨ua0, ua1, ua2⟩, loa, hia, la⟩ : Cn)
  sb : Small (⟨kb, nb, ⟨ub0, ub1, ub2⟩, lob, hib, lb⟩ : Cn)
  sc : Small (⟨kc, nc, ⟨uc0, uc1, uc2⟩, loc, hic, lc⟩ : Cn)
  vx : passC fs (⟨ka, na, ⟨ua0, ua1, ua2⟩, loa, hia, la⟩ : Cn) = x
  vy : passC fs (⟨kb, nb, ⟨ub0, ub1, ub2⟩, lob, hib, lb⟩ : Cn) = y
  vz : passC fs (⟨kc, nc, ⟨uc0, uc1, uc2⟩, loc, hic, lc⟩ : Cn) = z
  bl : Below w0.heap.size w0 w
theorem St.below {ka : Int} {na : ByteArray} {ua0 : Int} {ua1 : Int} {ua2 : ByteArray} {loa : Int} {hia : Int} {la : List Cn} {Aa : Option Addr} {ca : Nat} {kb : Int} {nb : ByteArray} {ub0 : Int} {ub1 : Int} {ub2 : ByteArray} {lob : Int} {hib : Int} {lb : List Cn} {Ab : Option Addr} {cb : Nat} {kc : Int} {nc : ByteArray} {uc0 : Int} {uc1 : Int} {uc2 : ByteArray} {loc : Int} {hic : Int} {lc : List Cn} {Ac : Option Addr} {cc : Nat} {id : Int} {A1 : Option Addr} {c1 : Nat} {vs : List S92} {A2 : Option Addr} {c2 : Nat} {fs : List Fi} {ga gb gc pp : Nat} {x y z : Bool} {w0 w w' : World} (h : St ka na ua0 ua1 ua2 loa hia la Aa ca kb nb ub0 ub1 ub2 lob hib lb Ab cb kc nc uc0 uc1 uc2 loc hic lc Ac cc id A1 c1 vs A2 c2 fs ga gb gc pp x y z w0 w) (hB : Below w.heap.size w w') : St ka na ua0 ua1 ua2 loa hia la Aa ca kb nb ub0 ub1 ub2 lob hib lb Ab cb kc nc uc0 uc1 uc2 loc hic lc Ac cc id A1 c1 vs A2 c2 fs ga gb gc pp x y z w0 w' :=
  ⟨(hB.block _ (Array.getElem?_eq_some_iff.1 h.ba).1).trans h.ba, (hB.block _ (Array.getElem?_eq_some_iff.1 h.bb).1).trans h.bb, (hB.block _ (Array.getElem?_eq_some_iff.1 h.bc).1).trans h.bc, (hB.block _ (Array.getElem?_eq_some_iff.1 h.bp).1).trans h.bp,
   Kd.C_below h.ca' hB, Kd.C_below h.cb' hB, Kd.C_below h.cc' hB, Kd.C_below h.cf hB, h.na', h.nb', h.nc', h.nf, h.nf2, h.sa, h.sb, h.sc, h.vx, h.vy, h.vz, h.bl.trans (hB.mono h.bl.size)⟩
structure Bx (ka : Int) (na : ByteArray) (ua0 : Int) (ua1 : Int) (ua2 : ByteArray) (loa : Int) (hia : Int) (la : List Cn) (Aa : Option Addr) (ca : Nat) (kb : Int) (nb : ByteArray) (ub0 : Int) (ub1 : Int) (ub2 : ByteArray) (lob : Int) (hib : Int) (lb : List Cn) (Ab : Option Addr) (cb : Nat) (kc : Int) (nc : ByteArray) (uc0 : Int) (uc1 : Int) (uc2 : ByteArray) (loc : Int) (hic : Int) (lc : List Cn) (Ac : Option Addr) (cc : Nat) (id : Int) (A1 : Option Addr) (c1 : Nat) (vs : List S92) (A2 : Option Addr) (c2 : Nat) (fs : List Fi) (b7 b8 g7 g8 : Nat) (w : World) : Prop where
  h7 : w.heap[b7]? = some (.cells #[.int .i64 7, .string ⟨#[]⟩, .int .i64 0, .int .i64 0, .string ⟨#[]⟩, .int .i64 0, .int .i64 0, .slice (some ⟨g7, 0, none⟩) 3 3] 26 (0, 0))
  l7 : w.heap[g7]? = some (.cells (cl3 (⟨ka, na, ⟨ua0, ua1, ua2⟩, loa, hia, la⟩ : Cn) (⟨kb, nb, ⟨ub0, ub1, ub2⟩, lob, hib, lb⟩ : Cn) (⟨kc, nc, ⟨uc0, uc1, uc2⟩, loc, hic, lc⟩ : Cn) Aa Ab Ac ca cb cc) 26 (0, 0))
  h8 : w.heap[b8]? = some (.cells #[.int .i64 8, .string ⟨#[]⟩, .int .i64 0, .int .i64 0, .string ⟨#[]⟩, .int .i64 0, .int .i64 0, .slice (some ⟨g8, 0, none⟩) 3 3] 26 (0, 0))
  l8 : w.heap[g8]? = some (.cells (cl3 (⟨ka, na, ⟨ua0, ua1, ua2⟩, loa, hia, la⟩ : Cn) (⟨kb, nb, ⟨ub0, ub1, ub2⟩, lob, hib, lb⟩ : Cn) (⟨kc, nc, ⟨uc0, uc1, uc2⟩, loc, hic, lc⟩ : Cn) Aa Ab Ac ca cb cc) 26 (0, 0))
theorem Bx.below {ka : Int} {na : ByteArray} {ua0 : Int} {ua1 : Int} {ua2 : ByteArray} {loa : Int} {hia : Int} {la : List Cn} {Aa : Option Addr} {ca : Nat} {kb : Int} {nb : ByteArray} {ub0 : Int} {ub1 : Int} {ub2 : ByteArray} {lob : Int} {hib : Int} {lb : List Cn} {Ab : Option Addr} {cb : Nat} {kc : Int} {nc : ByteArray} {uc0 : Int} {uc1 : Int} {uc2 : ByteArray} {loc : Int} {hic : Int} {lc : List Cn} {Ac : Option Addr} {cc : Nat} {id : Int} {A1 : Option Addr} {c1 : Nat} {vs : List S92} {A2 : Option Addr} {c2 : Nat} {fs : List Fi} {b7 b8 g7 g8 : Nat} {w w' : World} (h : Bx ka na ua0 ua1 ua2 loa hia la Aa ca kb nb ub0 ub1 ub2 lob hib lb Ab cb kc nc uc0 uc1 uc2 loc hic lc Ac cc id A1 c1 vs A2 c2 fs b7 b8 g7 g8 w) (hB : Below w.heap.size w w') : Bx ka na ua0 ua1 ua2 loa hia la Aa ca kb nb ub0 ub1 ub2 lob hib lb Ab cb kc nc uc0 uc1 uc2 loc hic lc Ac cc id A1 c1 vs A2 c2 fs b7 b8 g7 g8 w' :=
  ⟨(hB.block _ (Array.getElem?_eq_some_iff.1 h.h7).1).trans h.h7, (hB.block _ (Array.getElem?_eq_some_iff.1 h.l7).1).trans h.l7, (hB.block _ (Array.getElem?_eq_some_iff.1 h.h8).1).trans h.h8, (hB.block _ (Array.getElem?_eq_some_iff.1 h.l8).1).trans h.l8⟩
def S10 (w0 : World) : Prop := ∀ (ka : Int) (na : ByteArray) (ua0 : Int) (ua1 : Int) (ua2 : ByteArray) (loa : Int) (hia : Int) (la : List Cn) (Aa : Option Addr) (ca : Nat) (kb : Int) (nb : ByteArray) (ub0 : Int) (ub1 : Int) (ub2 : ByteArray) (lob : Int) (hib : Int) (lb : List Cn) (Ab : Option Addr) (cb : Nat) (kc : Int) (nc : ByteArray) (uc0 : Int) (uc1 : Int) (uc2 : ByteArray) (loc : Int) (hic : Int) (lc : List Cn) (Ac : Option Addr) (cc : Nat) (id : Int) (A1 : Option Addr) (c1 : Nat) (vs : List S92) (A2 : Option Addr) (c2 : Nat) (fs : List Fi) (ga gb gc pp : Nat) (x y z : Bool) (b7 b8 g7 g8 : Nat) (u0 u1 u2 u4 u13 u14 u15 u16 u17 u18 u19 u20 u21 u22 u23 u24 u25 u26 u27 u28 u29 u30 u31 u32 u33 u34 u35 u36 u37 u38 u39 u40 u41 u42 u43 u44 u45 u46 u47 u48 u49 u50 u51 u52 u53 u54 u55 u56 u57 u58 u59 u60 u61 u62 u63 u64 u65 u66 u67 u68 u69 u70 u71 u72 u73 u74 u75 u76 u77 u78 u79 u80 u81 u82 u83 u84 u85 u86 u87 u88 u89 u90 u91 u92 u93 u94 u95 u96 u97 u98 u99 u100 u101 u102 u103 u104 u105 u106 u107 u108 u109 u110 u111 u112 u113 u114 u115 u116 u117 u118 u119 u120 u121 u122 u123 u124 u125 u126 u127 u128 u129 u130 u131 u132 u133 u134 u135 u136 u137 u138 u139 u140 u141 u142 : Value) (w : World), St ka na ua0 ua1 ua2 loa hia la Aa ca kb nb ub0 ub1 ub2 lob hib lb Ab cb kc nc uc0 uc1 uc2 loc hic lc Ac cc id A1 c1 vs A2 c2 fs ga gb gc pp x y z w0 w → Bx ka na ua0 ua1 ua2 loa hia la Aa ca kb nb ub0 ub1 ub2 lob hib lb Ab cb kc nc uc0 uc1 uc2 loc hic lc Ac cc id A1 c1 vs A2 c2 fs b7 b8 g7 g8 w → (tailC 7 body5).wp Tryd.prog (bodyPost Tryd.prog Tryd.f5 (fun e w' => e = .returned (.bool true) ∧ Below w0.heap.size w0 w')) ({ tmps := #[u0, u1, u2, .pointer (some ⟨pp, 0, none⟩), u4, .pointer (some ⟨ga, 0, none⟩), .pointer (some ⟨gb, 0, none⟩), .pointer (some ⟨gc, 0, none⟩), .bool x, .bool y, .bool z, .pointer (some ⟨b7, 0, none⟩), .pointer (some ⟨b8, 0, none⟩), u13, u14, u15, u16, u17, u18, u19, u20, u21, u22, u23, u24, u25, u26, u27, u28, u29, u30, u31, u32, u33, u34, u35, u36, u37, u38, u39, u40, u41, u42, u43, u44, u45, u46, u47, u48, u49, u50, u51, u52, u53, u54, u55, u56, u57, u58, u59, u60, u61, u62, u63, u64, u65, u66, u67, u68, u69, u70, u71, u72, u73, u74, u75, u76, u77, u78, u79, u80, u81, u82, u83, u84, u85, u86, u87, u88, u89, u90, u91, u92, u93, u94, u95, u96, u97, u98, u99, u100, u101, u102, u103, u104, u105, u106, u107, u108, u109, u110, u111, u112, u113, u114, u115, u116, u117, u118, u119, u120, u121, u122, u123, u124, u125, u126, u127, u128, u129, u130, u131, u132, u133, u134, u135, u136, u137, u138, u139, u140, u141, u142], defers := [] } : Act) w
def S8 (w0 : World) : Prop := ∀ (ka : Int) (na : ByteArray) (ua0 : Int) (ua1 : Int) (ua2 : ByteArray) (loa : Int) (hia : Int) (la : List Cn) (Aa : Option Addr) (ca : Nat) (kb : Int) (nb : ByteArray) (ub0 : Int) (ub1 : Int) (ub2 : ByteArray) (lob : Int) (hib : Int) (lb : List Cn) (Ab : Option Addr) (cb : Nat) (kc : Int) (nc : ByteArray) (uc0 : Int) (uc1 : Int) (uc2 : ByteArray) (loc : Int) (hic : Int) (lc : List Cn) (Ac : Option Addr) (cc : Nat) (id : Int) (A1 : Option Addr) (c1 : Nat) (vs : List S92) (A2 : Option Addr) (c2 : Nat) (fs : List Fi) (ga gb gc pp : Nat) (x y z : Bool) (b7 b8 g7 g8 : Nat) (u0 u1 u2 u4 u13 u14 u15 u16 u17 u18 u19 u20 u21 u22 u23 u24 u25 u26 u27 u28 u29 u30 u31 u32 u33 u34 u35 u36 u37 u38 u39 u40 u41 u42 u43 u44 u45 u46 u47 u48 u49 u50 u51 u52 u53 u54 u55 u56 u57 u58 u59 u60 u61 u62 u63 u64 u65 u66 u67 u68 u69 u70 u71 u72 u73 u74 u75 u76 u77 u78 u79 u80 u81 u82 u83 u84 u85 u86 u87 u88 u89 u90 u91 u92 u93 u94 u95 u96 u97 u98 u99 u100 u101 u102 u103 u104 u105 u106 u107 u108 u109 u110 u111 u112 u113 u114 u115 u116 u117 u118 u119 u120 u121 u122 u123 u124 u125 u126 u127 u128 u129 u130 u131 u132 u133 u134 u135 u136 u137 u138 u139 u140 u141 u142 : Value) (w : World), St ka na ua0 ua1 ua2 loa hia la Aa ca kb nb ub0 ub1 ub2 lob hib lb Ab cb kc nc uc0 uc1 uc2 loc hic lc Ac cc id A1 c1 vs A2 c2 fs ga gb gc pp x y z w0 w → Bx ka na ua0 ua1 ua2 loa hia la Aa ca kb nb ub0 ub1 ub2 lob hib lb Ab cb kc nc uc0 uc1 uc2 loc hic lc Ac cc id A1 c1 vs A2 c2 fs b7 b8 g7 g8 w → (tailC 6 body5).wp Tryd.prog (bodyPost Tryd.prog Tryd.f5 (fun e w' => e = .returned (.bool true) ∧ Below w0.heap.size w0 w')) ({ tmps := #[u0, u1, u2, .pointer (some ⟨pp, 0, none⟩), u4, .pointer (some ⟨ga, 0, none⟩), .pointer (some ⟨gb, 0, none⟩), .pointer (some ⟨gc, 0, none⟩), .bool x, .bool y, .bool z, .pointer (some ⟨b7, 0, none⟩), .pointer (some ⟨b8, 0, none⟩), u13, u14, u15, u16, u17, u18, u19, u20, u21, u22, u23, u24, u25, u26, u27, u28, u29, u30, u31, u32, u33, u34, u35, u36, u37, u38, u39, u40, u41, u42, u43, u44, u45, u46, u47, u48, u49, u50, u51, u52, u53, u54, u55, u56, u57, u58, u59, u60, u61, u62, u63, u64, u65, u66, u67, u68, u69, u70, u71, u72, u73, u74, u75, u76, u77, u78, u79, u80, u81, u82, u83, u84, u85, u86, u87, u88, u89, u90, u91, u92, u93, u94, u95, u96, u97, u98, u99, u100, u101, u102, u103, u104, u105, u106, u107, u108, u109, u110, u111, u112, u113, u114, u115, u116, u117, u118, u119, u120, u121, u122, u123, u124, u125, u126, u127, u128, u129, u130, u131, u132, u133, u134, u135, u136, u137, u138, u139, u140, u141, u142], defers := [] } : Act) w
def S6 (w0 : World) : Prop := ∀ (ka : Int) (na : ByteArray) (ua0 : Int) (ua1 : Int) (ua2 : ByteArray) (loa : Int) (hia : Int) (la : List Cn) (Aa : Option Addr) (ca : Nat) (kb : Int) (nb : ByteArray) (ub0 : Int) (ub1 : Int) (ub2 : ByteArray) (lob : Int) (hib : Int) (lb : List Cn) (Ab : Option Addr) (cb : Nat) (kc : Int) (nc : ByteArray) (uc0 : Int) (uc1 : Int) (uc2 : ByteArray) (loc : Int) (hic : Int) (lc : List Cn) (Ac : Option Addr) (cc : Nat) (id : Int) (A1 : Option Addr) (c1 : Nat) (vs : List S92) (A2 : Option Addr) (c2 : Nat) (fs : List Fi) (ga gb gc pp : Nat) (x y z : Bool) (b7 b8 g7 g8 : Nat) (u0 u1 u2 u4 u13 u14 u15 u16 u17 u18 u19 u20 u21 u22 u23 u24 u25 u26 u27 u28 u29 u30 u31 u32 u33 u34 u35 u36 u37 u38 u39 u40 u41 u42 u43 u44 u45 u46 u47 u48 u49 u50 u51 u52 u53 u54 u55 u56 u57 u58 u59 u60 u61 u62 u63 u64 u65 u66 u67 u68 u69 u70 u71 u72 u73 u74 u75 u76 u77 u78 u79 u80 u81 u82 u83 u84 u85 u86 u87 u88 u89 u90 u91 u92 u93 u94 u95 u96 u97 u98 u99 u100 u101 u102 u103 u104 u105 u106 u107 u108 u109 u110 u111 u112 u113 u114 u115 u116 u117 u118 u119 u120 u121 u122 u123 u124 u125 u126 u127 u128 u129 u130 u131 u132 u133 u134 u135 u136 u137 u138 u139 u140 u141 u142 : Value) (w : World), St ka na ua0 ua1 ua2 loa hia la Aa ca kb nb ub0 ub1 ub2 lob hib lb Ab cb kc nc uc0 uc1 uc2 loc hic lc Ac cc id A1 c1 vs A2 c2 fs ga gb gc pp x y z w0 w → Bx ka na ua0 ua1 ua2 loa hia la Aa ca kb nb ub0 ub1 ub2 lob hib lb Ab cb kc nc uc0 uc1 uc2 loc hic lc Ac cc id A1 c1 vs A2 c2 fs b7 b8 g7 g8 w → (tailC 5 body5).wp Tryd.prog (bodyPost Tryd.prog Tryd.f5 (fun e w' => e = .returned (.bool true) ∧ Below w0.heap.size w0 w')) ({ tmps := #[u0, u1, u2, .pointer (some ⟨pp, 0, none⟩), u4, .pointer (some ⟨ga, 0, none⟩), .pointer (some ⟨gb, 0, none⟩), .pointer (some ⟨gc, 0, none⟩), .bool x, .bool y, .bool z, .pointer (some ⟨b7, 0, none⟩), .pointer (some ⟨b8, 0, none⟩), u13, u14, u15, u16, u17, u18, u19, u20, u21, u22, u23, u24, u25, u26, u27, u28, u29, u30, u31, u32, u33, u34, u35, u36, u37, u38, u39, u40, u41, u42, u43, u44, u45, u46, u47, u48, u49, u50, u51, u52, u53, u54, u55, u56, u57, u58, u59, u60, u61, u62, u63, u64, u65, u66, u67, u68, u69, u70, u71, u72, u73, u74, u75, u76, u77, u78, u79, u80, u81, u82, u83, u84, u85, u86, u87, u88, u89, u90, u91, u92, u93, u94, u95, u96, u97, u98, u99, u100, u101, u102, u103, u104, u105, u106, u107, u108, u109, u110, u111, u112, u113, u114, u115, u116, u117, u118, u119, u120, u121, u122, u123, u124, u125, u126, u127, u128, u129, u130, u131, u132, u133, u134, u135, u136, u137, u138, u139, u140, u141, u142], defers := [] } : Act) w
def S5 (w0 : World) : Prop := ∀ (ka : Int) (na : ByteArray) (ua0 : Int) (ua1 : Int) (ua2 : ByteArray) (loa : Int) (hia : Int) (la : List Cn) (Aa : Option Addr) (ca : Nat) (kb : Int) (nb : ByteArray) (ub0 : Int) (ub1 : Int) (ub2 : ByteArray) (lob : Int) (hib : Int) (lb : List Cn) (Ab : Option Addr) (cb : Nat) (kc : Int) (nc : ByteArray) (uc0 : Int) (uc1 : Int) (uc2 : ByteArray) (loc : Int) (hic : Int) (lc : List Cn) (Ac : Option Addr) (cc : Nat) (id : Int) (A1 : Option Addr) (c1 : Nat) (vs : List S92) (A2 : Option Addr) (c2 : Nat) (fs : List Fi) (ga gb gc pp : Nat) (x y z : Bool)  (u0 u1 u2 u4 u11 u12 u13 u14 u15 u16 u17 u18 u19 u20 u21 u22 u23 u24 u25 u26 u27 u28 u29 u30 u31 u32 u33 u34 u35 u36 u37 u38 u39 u40 u41 u42 u43 u44 u45 u46 u47 u48 u49 u50 u51 u52 u53 u54 u55 u56 u57 u58 u59 u60 u61 u62 u63 u64 u65 u66 u67 u68 u69 u70 u71 u72 u73 u74 u75 u76 u77 u78 u79 u80 u81 u82 u83 u84 u85 u86 u87 u88 u89 u90 u91 u92 u93 u94 u95 u96 u97 u98 u99 u100 u101 u102 u103 u104 u105 u106 u107 u108 u109 u110 u111 u112 u113 u114 u115 u116 u117 u118 u119 u120 u121 u122 u123 u124 u125 u126 u127 u128 u129 u130 u131 u132 u133 u134 u135 u136 u137 u138 u139 u140 u141 u142 : Value) (w : World), St ka na ua0 ua1 ua2 loa hia la Aa ca kb nb ub0 ub1 ub2 lob hib lb Ab cb kc nc uc0 uc1 uc2 loc hic lc Ac cc id A1 c1 vs A2 c2 fs ga gb gc pp x y z w0 w → (tailC 4 body5).wp Tryd.prog (bodyPost Tryd.prog Tryd.f5 (fun e w' => e = .returned (.bool true) ∧ Below w0.heap.size w0 w')) ({ tmps := #[u0, u1, u2, .pointer (some ⟨pp, 0, none⟩), u4, .pointer (some ⟨ga, 0, none⟩), .pointer (some ⟨gb, 0, none⟩), .pointer (some ⟨gc, 0, none⟩), .bool x, .bool y, .bool z, u11, u12, u13, u14, u15, u16, u17, u18, u19, u20, u21, u22, u23, u24, u25, u26, u27, u28, u29, u30, u31, u32, u33, u34, u35, u36, u37, u38, u39, u40, u41, u42, u43, u44, u45, u46, u47, u48, u49, u50, u51, u52, u53, u54, u55, u56, u57, u58, u59, u60, u61, u62, u63, u64, u65, u66, u67, u68, u69, u70, u71, u72, u73, u74, u75, u76, u77, u78, u79, u80, u81, u82, u83, u84, u85, u86, u87, u88, u89, u90, u91, u92, u93, u94, u95, u96, u97, u98, u99, u100, u101, u102, u103, u104, u105, u106, u107, u108, u109, u110, u111, u112, u113, u114, u115, u116, u117, u118, u119, u120, u121, u122, u123, u124, u125, u126, u127, u128, u129, u130, u131, u132, u133, u134, u135, u136, u137, u138, u139, u140, u141, u142], defers := [] } : Act) w
def S3 (w0 : World) : Prop := ∀ (ka : Int) (na : ByteArray) (ua0 : Int) (ua1 : Int) (ua2 : ByteArray) (loa : Int) (hia : Int) (la : List Cn) (Aa : Option Addr) (ca : Nat) (kb : Int) (nb : ByteArray) (ub0 : Int) (ub1 : Int) (ub2 : ByteArray) (lob : Int) (hib : Int) (lb : List Cn) (Ab : Option Addr) (cb : Nat) (kc : Int) (nc : ByteArray) (uc0 : Int) (uc1 : Int) (uc2 : ByteArray) (loc : Int) (hic : Int) (lc : List Cn) (Ac : Option Addr) (cc : Nat) (id : Int) (A1 : Option Addr) (c1 : Nat) (vs : List S92) (A2 : Option Addr) (c2 : Nat) (fs : List Fi) (ga gb gc pp : Nat) (x y z : Bool)  (u0 u1 u2 u4 u11 u12 u13 u14 u15 u16 u17 u18 u19 u20 u21 u22 u23 u24 u25 u26 u27 u28 u29 u30 u31 u32 u33 u34 u35 u36 u37 u38 u39 u40 u41 u42 u43 u44 u45 u46 u47 u48 u49 u50 u51 u52 u53 u54 u55 u56 u57 u58 u59 u60 u61 u62 u63 u64 u65 u66 u67 u68 u69 u70 u71 u72 u73 u74 u75 u76 u77 u78 u79 u80 u81 u82 u83 u84 u85 u86 u87 u88 u89 u90 u91 u92 u93 u94 u95 u96 u97 u98 u99 u100 u101 u102 u103 u104 u105 u106 u107 u108 u109 u110 u111 u112 u113 u114 u115 u116 u117 u118 u119 u120 u121 u122 u123 u124 u125 u126 u127 u128 u129 u130 u131 u132 u133 u134 u135 u136 u137 u138 u139 u140 u141 u142 : Value) (w : World), St ka na ua0 ua1 ua2 loa hia la Aa ca kb nb ub0 ub1 ub2 lob hib lb Ab cb kc nc uc0 uc1 uc2 loc hic lc Ac cc id A1 c1 vs A2 c2 fs ga gb gc pp x y z w0 w → (tailC 3 body5).wp Tryd.prog (bodyPost Tryd.prog Tryd.f5 (fun e w' => e = .returned (.bool true) ∧ Below w0.heap.size w0 w')) ({ tmps := #[u0, u1, u2, .pointer (some ⟨pp, 0, none⟩), u4, .pointer (some ⟨ga, 0, none⟩), .pointer (some ⟨gb, 0, none⟩), .pointer (some ⟨gc, 0, none⟩), .bool x, .bool y, .bool z, u11, u12, u13, u14, u15, u16, u17, u18, u19, u20, u21, u22, u23, u24, u25, u26, u27, u28, u29, u30, u31, u32, u33, u34, u35, u36, u37, u38, u39, u40, u41, u42, u43, u44, u45, u46, u47, u48, u49, u50, u51, u52, u53, u54, u55, u56, u57, u58, u59, u60, u61, u62, u63, u64, u65, u66, u67, u68, u69, u70, u71, u72, u73, u74, u75, u76, u77, u78, u79, u80, u81, u82, u83, u84, u85, u86, u87, u88, u89, u90, u91, u92, u93, u94, u95, u96, u97, u98, u99, u100, u101, u102, u103, u104, u105, u106, u107, u108, u109, u110, u111, u112, u113, u114, u115, u116, u117, u118, u119, u120, u121, u122, u123, u124, u125, u126, u127, u128, u129, u130, u131, u132, u133, u134, u135, u136, u137, u138, u139, u140, u141, u142], defers := [] } : Act) w
def S2 (w0 : World) : Prop := ∀ (ka : Int) (na : ByteArray) (ua0 : Int) (ua1 : Int) (ua2 : ByteArray) (loa : Int) (hia : Int) (la : List Cn) (Aa : Option Addr) (ca : Nat) (kb : Int) (nb : ByteArray) (ub0 : Int) (ub1 : Int) (ub2 : ByteArray) (lob : Int) (hib : Int) (lb : List Cn) (Ab : Option Addr) (cb : Nat) (kc : Int) (nc : ByteArray) (uc0 : Int) (uc1 : Int) (uc2 : ByteArray) (loc : Int) (hic : Int) (lc : List Cn) (Ac : Option Addr) (cc : Nat) (id : Int) (A1 : Option Addr) (c1 : Nat) (vs : List S92) (A2 : Option Addr) (c2 : Nat) (fs : List Fi) (ga gb gc pp : Nat) (x y z : Bool)  (u0 u1 u2 u4 u8 u9 u10 u11 u12 u13 u14 u15 u16 u17 u18 u19 u20 u21 u22 u23 u24 u25 u26 u27 u28 u29 u30 u31 u32 u33 u34 u35 u36 u37 u38 u39 u40 u41 u42 u43 u44 u45 u46 u47 u48 u49 u50 u51 u52 u53 u54 u55 u56 u57 u58 u59 u60 u61 u62 u63 u64 u65 u66 u67 u68 u69 u70 u71 u72 u73 u74 u75 u76 u77 u78 u79 u80 u81 u82 u83 u84 u85 u86 u87 u88 u89 u90 u91 u92 u93 u94 u95 u96 u97 u98 u99 u100 u101 u102 u103 u104 u105 u106 u107 u108 u109 u110 u111 u112 u113 u114 u115 u116 u117 u118 u119 u120 u121 u122 u123 u124 u125 u126 u127 u128 u129 u130 u131 u132 u133 u134 u135 u136 u137 u138 u139 u140 u141 u142 : Value) (w : World), St ka na ua0 ua1 ua2 loa hia la Aa ca kb nb ub0 ub1 ub2 lob hib lb Ab cb kc nc uc0 uc1 uc2 loc hic lc Ac cc id A1 c1 vs A2 c2 fs ga gb gc pp x y z w0 w → (tailC 2 body5).wp Tryd.prog (bodyPost Tryd.prog Tryd.f5 (fun e w' => e = .returned (.bool true) ∧ Below w0.heap.size w0 w')) ({ tmps := #[u0, u1, u2, .pointer (some ⟨pp, 0, none⟩), u4, .pointer (some ⟨ga, 0, none⟩), .pointer (some ⟨gb, 0, none⟩), .pointer (some ⟨gc, 0, none⟩), u8, u9, u10, u11, u12, u13, u14, u15, u16, u17, u18, u19, u20, u21, u22, u23, u24, u25, u26, u27, u28, u29, u30, u31, u32, u33, u34, u35, u36, u37, u38, u39, u40, u41, u42, u43, u44, u45, u46, u47, u48, u49, u50, u51, u52, u53, u54, u55, u56, u57, u58, u59, u60, u61, u62, u63, u64, u65, u66, u67, u68, u69, u70, u71, u72, u73, u74, u75, u76, u77, u78, u79, u80, u81, u82, u83, u84, u85, u86, u87, u88, u89, u90, u91, u92, u93, u94, u95, u96, u97, u98, u99, u100, u101, u102, u103, u104, u105, u106, u107, u108, u109, u110, u111, u112, u113, u114, u115, u116, u117, u118, u119, u120, u121, u122, u123, u124, u125, u126, u127, u128, u129, u130, u131, u132, u133, u134, u135, u136, u137, u138, u139, u140, u141, u142], defers := [] } : Act) w

end Go.Proofs.YthaofmbjkdikbaaDoor.F

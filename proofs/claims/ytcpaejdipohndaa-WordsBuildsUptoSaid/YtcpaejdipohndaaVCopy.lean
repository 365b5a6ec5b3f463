/- Words: ref05.Copy and law14.twin: points in memory of their own. -/
import Derived.Test.YtcpaejdipohndaaVOrder
import Derived.Deep.RegionHeldLaw
namespace Go.Proofs.Ytcpaejdipohndaa.V
open Go.RowKit Go.Sort Go.Shelf Go.Lib Go.Maps Go.Proofs.YtcpaejdipohndaaW.PrintWords Go.Proofs.Ytcpaejdipohndaa.PAll Go.Proofs.Ytcpaejdipohndaa.R
set_option linter.unusedVariables false
abbrev Vc := S70
abbrev Fl := S35
theorem infoF : (Try.prog.info? 35).map (fun i => (i.zero, i.size, i.bytes)) = some (some (.agg #[.string ByteArray.empty, .int .i64 0, .int .i64 0, .string ByteArray.empty]), 4, 48) := by kernel_rfl
theorem infoVc : (Try.prog.info? 70).map (fun i => (i.zero, i.size, i.bytes)) = some (some (.agg #[.string ByteArray.empty, .slice none 0 0]), 2, 40) := by kernel_rfl
/-- A copy being made: the box g holds the point as far as it has come. -/
structure Cp (w : World) (p : Pt) (g : Nat) (vs : List Vc) (v1 v2 : Value) (W : World) : Prop where
  x : W.heap[g]? = some (.cells #[.int .i64 p.f0, v1, v2] 33 (0, 0))
  r1 : Kd.R k70 70 W w.heap.size (fun _ => True) v1 vs
  r2 : Kd.R k35 35 W w.heap.size (fun _ => True) v2 p.f2
  b : Below w.heap.size w W
  gl : w.heap.size ≤ g
theorem cp1 {w w2 W1 : World} {p : Pt} {v2 : Value} (hB : Below w.heap.size w W1) (hR : Kd.R k35 35 W1 w.heap.size (fun _ => True) v2 p.f2) :
    Cp w p W1.heap.size [] (.slice none 0 0) v2 (W1.alloc (.cells #[.int .i64 p.f0, .slice none 0 0, v2] 33)) :=
  ⟨World.alloc_heap_new _ _, Kd.R_nil _ _ _ _ _, Kd.R_alloc hR _, hB.alloc hB.size _, hB.size⟩
theorem cp2 {w W1 : World} {p : Pt} {v2 : Value} {g : Nat} (hB : Below w.heap.size w W1) (h0 : W1.heap[g]? = some (.cells #[.int .i64 0, .slice none 0 0, .slice none 0 0] 33 (0, 0))) (hg : w.heap.size ≤ g) (hR : Kd.R k35 35 W1 w.heap.size (fun _ => True) v2 p.f2) :
    Cp w p g [] (.slice none 0 0) v2 (((W1.setCell ⟨g, 0, none⟩ (.int .i64 p.f0)).setCell ⟨g, 1, none⟩ (.slice none 0 0)).setCell ⟨g, 2, none⟩ v2) := by
  have f1 := blk_set h0 0 (.int .i64 p.f0)
  have f2 := blk_set f1 1 (.slice none 0 0)
  have f3 := blk_set f2 2 v2
  exact ⟨f3, Kd.R_nil _ _ _ _ _, Kd.R_set (Kd.R_set (Kd.R_set hR h0 (by decide) 0 (.int .i64 p.f0)) f1 (by decide) 1 (.slice none 0 0)) f2 (by decide) 2 v2, ((hB.setCell (by exact hg) _).setCell (by exact hg) _).setCell (by exact hg) _, hg⟩
section
variable {ops : Array Oper} {o : Oper} {a : Act} {Q : Exit → Act → World → Prop} {Kc : Act → World → Prop} {E : Prop}
/-- append([]Field(nil), x...) at a step of a drawing region. -/
theorem step_copy_f {w W : World} {A : Option Addr} {c : Nat} {xs : List Fl} (hgd : o.guard = none) (s y : Operand)
    (ho : o.op = .call { callee := .builtin .append, args := #[s, y], argTypes := #[31, 31] }) (hs : a.eval s = .slice none 0 0) (hy : a.eval y = .slice A xs.length c) (hC : Kd.C k35 W A xs.length xs) (hl : xs.length ≤ 1048576) (hB : Below w.heap.size w W)
    (h : ∀ v' W', Kd.R k35 35 W' w.heap.size (fun _ => True) v' xs → Below W.heap.size W W' → Kc (a.put o.dst v') W') :
    if Region.wanted o (yielded ops a.tmps) = true then Oper.wp Try.prog o a W Kc Q else Kc (a.put o.dst undef) W := by
  refine Kd.R_append_rows_step k35 (Rr := k35.K W) (w0 := W) (W := W) w.heap.size (by simp [Region.wanted, hgd]) s y 31 35 _ 48 ho Try.underlying31 infoF rfl (by decide) (by decide) (.slice none 0 0) [] xs A xs.length c (fun _ => True) (fun _ => False) hs hy (Kd.R_nil _ _ _ _ _) hC (fun x cs hx => by rw [k35_open hx]; exact k35_mkM _ _ _ _) (fun _ h => h.elim) (fun _ _ => trivial) (Below.refl _ _) hB.size (by simp; omega) ?_
  intro v1 w1 hR hb hg hat
  rw [List.nil_append] at hR
  exact h v1 w1 hR ⟨hg.os, hg.tape, hg.output, hg.size, fun k hk => hg.block k hk (by simp [Value.ownBlock])⟩
end
theorem vecs_of_C {w : World} {A : Option Addr} {xs : List Vc} (h : Kd.C k70 w A xs.length xs) (hn : 0 < xs.length) :
    ∃ b off, A = some ⟨b, off, none⟩ ∧ b < w.heap.size ∧ ∀ j (hj : j < xs.length), ∃ A3 c3, w.cell? ⟨b, off + j * 2, none⟩ = some (.string xs[j].f0) ∧ w.cell? ⟨b, off + j * 2 + 1, none⟩ = some (.slice A3 xs[j].f1.length c3) ∧ xs[j].f1.length ≤ c3 ∧ Kd.C (Kd.int .i64) w A3 xs[j].f1.length xs[j].f1 := by
  obtain ⟨ad, A3, c3, rfl, h00, -⟩ := at_T70 h 0 (Int.le_refl _) (by omega)
  obtain ⟨b, off, sp⟩ := ad
  have hsp : sp = none := by
    cases sp with
    | none => rfl
    | some s =>
      simp only [Int.toNat_zero, Nat.zero_mul, Addr.add, if_true, World.cell?] at h00
      split at h00 <;> simp at h00
  subst hsp
  have hb : b < w.heap.size := World.block_lt_of_cell? w _ h00
  refine ⟨b, off, rfl, hb, fun j hj => ?_⟩
  obtain ⟨ad, A3, c3, e, h1, h2, h3, h4⟩ := at_T70 h (j : Int) (by omega) (by omega)
  cases e
  have ea : ((⟨b, off, none⟩ : Addr).add ((j : Int).toNat * 2)) = ⟨b, off + j * 2, none⟩ := by unfold Addr.add; split <;> simp_all
  rw [ea] at h1 h2
  have er : rd_T70 xs (j : Int) = xs[j] := by unfold rd_T70; simp [hj]
  rw [er] at h1 h2 h3 h4
  exact ⟨A3, c3, h1, h2, h3, h4⟩
theorem infoN : (Try.prog.info? 3).map (fun i => (i.zero, i.size, i.bytes)) = some (some (.int .i64 0), 1, 8) := by kernel_rfl
section
variable {ops : Array Oper} {o : Oper} {a : Act} {Q : Exit → Act → World → Prop} {Kc : Act → World → Prop} {E : Prop}
/-- append([]int(nil), x...) at a step of a drawing region; x is foreign. -/
theorem step_copy_n {w W : World} {A : Option Addr} {c : Nat} {xs : List Int} (hgd : o.guard = none) (s y : Operand)
    (ho : o.op = .call { callee := .builtin .append, args := #[s, y], argTypes := #[37, 37] }) (hs : a.eval s = .slice none 0 0) (hy : a.eval y = .slice A xs.length c) (hC : Kd.C (Kd.int .i64) W A xs.length xs) (hl : xs.length ≤ 1048576) (hB : w.heap.size ≤ W.heap.size)
    (h : ∀ v' W', Kd.R (Kd.int .i64) 3 W' w.heap.size (fun k => W.heap.size ≤ k) v' xs → Below W.heap.size W W' → Kc (a.put o.dst v') W') :
    if Region.wanted o (yielded ops a.tmps) = true then Oper.wp Try.prog o a W Kc Q else Kc (a.put o.dst undef) W := by
  refine Kd.R_append_rows_step (Kd.int .i64) (Rr := (Kd.int .i64).K W) (w0 := W) (W := W) w.heap.size (by simp [Region.wanted, hgd]) s y 37 3 (.int .i64 0) 8 ho Try.underlying37 infoN rfl (by decide) (by decide) (.slice none 0 0) [] xs A xs.length c (fun k => W.heap.size ≤ k) (fun _ => False) hs hy (Kd.R_nil _ _ _ _ _) hC (fun x cs hx => hx) (fun _ h => h.elim) (fun _ h => h) (Below.refl _ _) hB (by simp; omega) ?_
  intro v1 w1 hR hb hg hat
  rw [List.nil_append] at hR
  exact h v1 w1 hR ⟨hg.os, hg.tape, hg.output, hg.size, fun k hk => hg.block k hk (by simp [Value.ownBlock])⟩
/-- append(x, vec) at a step of a drawing region. -/
theorem step_append_v {w W : World} {v : Value} {vs : List Vc} {x : Vc} {v3 : Value} {B : Nat} (hgd : o.guard = none) (s y : Operand)
    (ho : o.op = .call { callee := .builtin .append, args := #[s, y], argTypes := #[30, 30] }) (hs : a.eval s = v) (hy : a.eval y = .slice (some ⟨W.heap.size, 0, none⟩) 1 1)
    (hR : Kd.R k70 70 W w.heap.size (fun _ => True) v vs) (h3 : Kd.R (Kd.int .i64) 3 W w.heap.size (fun k => B ≤ k) v3 x.f1) (hv : ∀ k, v.ownBlock = some k → k < B) (hl : vs.length ≤ 1048576) (hB : w.heap.size ≤ W.heap.size)
    (h : ∀ v' W', Kd.R k70 70 W' w.heap.size (fun _ => True) v' (vs ++ [x]) → W.grownBy W' v.ownBlock → Below w.heap.size W W' → Kc (a.put o.dst v') W') :
    if Region.wanted o (yielded ops a.tmps) = true then Oper.wp Try.prog o a (W.alloc (.cells #[.string x.f0, v3] 70)) Kc Q else Kc (a.put o.dst undef) (W.alloc (.cells #[.string x.f0, v3] 70)) := by
  refine Kd.R_append_step k70 (w0 := W) (W := W) w.heap.size (by simp [Region.wanted, hgd]) s y 30 70 _ 40 ho Try.underlying30 infoVc rfl (by decide) (by decide) v vs x [.string x.f0, v3] (fun _ => True) (fun k => B ≤ k) hs hy (k70_mkM _ _ _ _ h3) (fun k hk => ⟨trivial, fun e => by have := hv k e.symm; omega⟩) (fun _ _ => trivial) hR (Below.refl _ _) hB (by omega) ?_
  intro v1 w1 hR1 hb hg hat
  exact h v1 w1 hR1 hg hb
variable {rest : List Oper}
theorem wpl_copy_n {w W : World} {A : Option Addr} {c : Nat} {xs : List Int} (hgd : o.guard = none) (s y : Operand)
    (ho : o.op = .call { callee := .builtin .append, args := #[s, y], argTypes := #[37, 37] }) (hs : a.eval s = .slice none 0 0) (hy : a.eval y = .slice A xs.length c) (hC : Kd.C (Kd.int .i64) W A xs.length xs) (hl : xs.length ≤ 1048576) (hB : w.heap.size ≤ W.heap.size)
    (h : ∀ v' W', Kd.R (Kd.int .i64) 3 W' w.heap.size (fun k => W.heap.size ≤ k) v' xs → Below W.heap.size W W' → wpList Try.prog ops Q rest (a.put o.dst v') W') :
    wpList Try.prog ops Q (o :: rest) a W := wpList_step fun K hK => step_copy_n hgd s y ho hs hy hC hl hB fun v' W' hR hB => hK _ _ (h v' W' hR hB)
theorem wpl_append_v {w W : World} {v : Value} {vs : List Vc} {x : Vc} {v3 : Value} {B : Nat} (hgd : o.guard = none) (s y : Operand)
    (ho : o.op = .call { callee := .builtin .append, args := #[s, y], argTypes := #[30, 30] }) (hs : a.eval s = v) (hy : a.eval y = .slice (some ⟨W.heap.size, 0, none⟩) 1 1)
    (hR : Kd.R k70 70 W w.heap.size (fun _ => True) v vs) (h3 : Kd.R (Kd.int .i64) 3 W w.heap.size (fun k => B ≤ k) v3 x.f1) (hv : ∀ k, v.ownBlock = some k → k < B) (hl : vs.length ≤ 1048576) (hB : w.heap.size ≤ W.heap.size)
    (h : ∀ v' W', Kd.R k70 70 W' w.heap.size (fun _ => True) v' (vs ++ [x]) → W.grownBy W' v.ownBlock → Below w.heap.size W W' → wpList Try.prog ops Q rest (a.put o.dst v') W') :
    wpList Try.prog ops Q (o :: rest) a (W.alloc (.cells #[.string x.f0, v3] 70)) := wpList_step fun K hK => step_append_v hgd s y ho hs hy hR h3 hv hl hB fun v' W' hR hg hB => hK _ _ (h v' W' hR hg hB)
end
def Same (B : Nat) (W1 W2 : World) : Prop := ∀ k, k < B → W2.heap[k]? = W1.heap[k]?
theorem Same.below {B : Nat} {W1 W2 : World} (h : Below B W1 W2) : Same B W1 W2 := h.block
theorem Same.alloc {B : Nat} {W1 W2 : World} {o : Obj} (hB : B ≤ W1.heap.size) (h : Below B W1 W2) : Same B (W1.alloc o) W2 := fun k hk => (h.block k hk).trans (((Below.refl B W1).alloc hB o).block k hk).symm
theorem Same.cell {B : Nat} {W1 W2 : World} (h : Same B W1 W2) {a : Addr} {v : Value} (ha : a.block < B) (h1 : W1.cell? a = some v) : W2.cell? a = some v := (World.cell?_of_block (h _ ha)).trans h1
theorem cp_blk {w wr W1 w1 : World} {p : Pt} {g : Nat} {vs : List Vc} {v1 v2 : Value} (h : Cp w p g vs v1 v2 wr) (hB : Below wr.heap.size wr W1) (hg : W1.grownBy w1 v1.ownBlock) :
    w1.heap[g]? = some (.cells #[.int .i64 p.f0, v1, v2] 33 (0, 0)) := by
  have hl := blk_lt h.x
  have hx1 := (hB.block g hl).trans h.x
  exact (hg.block g (Nat.lt_of_lt_of_le hl hB.size) (Kd.R_ne (Kd.R_below h.r1 hB) hx1 (by decide))).trans hx1
theorem cp_end {w w2 wr : World} {p : Pt} {g q : Nat} {v1 v2 : Value} (h : Cp w2 p g p.f1 v1 v2 wr) (hb : Below w.heap.size w w2) (hq : w.heap.size ≤ q) (h3 : wr.heap[q]? = some (.cells #[.int .i64 0, .slice none 0 0, .slice none 0 0] 33 (0, 0))) :
    (((wr.setCell ⟨q, 0, none⟩ (.int .i64 p.f0)).setCell ⟨q, 1, none⟩ v1).setCell ⟨q, 2, none⟩ v2).heap[q]? = some (.cells #[.int .i64 p.f0, v1, v2] 33 (0, 0)) ∧ k33.M (((wr.setCell ⟨q, 0, none⟩ (.int .i64 p.f0)).setCell ⟨q, 1, none⟩ v1).setCell ⟨q, 2, none⟩ v2) w.heap.size (fun _ => True) p [.int .i64 p.f0, v1, v2] ∧ Below w.heap.size w (((wr.setCell ⟨q, 0, none⟩ (.int .i64 p.f0)).setCell ⟨q, 1, none⟩ v1).setCell ⟨q, 2, none⟩ v2) := by
  have f1 := blk_set h3 0 (.int .i64 p.f0)
  have f2 := blk_set f1 1 v1
  have f3 := blk_set f2 2 v2
  have r1 := Kd.R_set (Kd.R_set (Kd.R_set h.r1 h3 (by decide) 0 (.int .i64 p.f0)) f1 (by decide) 1 v1) f2 (by decide) 2 v2
  have r2 := Kd.R_set (Kd.R_set (Kd.R_set h.r2 h3 (by decide) 0 (.int .i64 p.f0)) f1 (by decide) 1 v1) f2 (by decide) 2 v2
  exact ⟨f3, k33.M_lower hb.size (k33_mkM _ _ _ _ r1 r2), (((hb.trans (h.b.mono hb.size)).setCell (by exact hq) _).setCell (by exact hq) _).setCell (by exact hq) _⟩
theorem cp_next {w wr W1 w1 : World} {p : Pt} {g : Nat} {vs : List Vc} {v1 v2 v' : Value} {x : Vc} (h : Cp w p g vs v1 v2 wr) (hB : Below wr.heap.size wr W1) (hR : Kd.R k70 70 w1 w.heap.size (fun _ => True) v' (vs ++ [x])) (hg : W1.grownBy w1 v1.ownBlock) (hB2 : Below w.heap.size W1 w1) :
    Cp w p g (vs ++ [x]) v' v2 (w1.setCell ⟨g, 1, none⟩ v') := by
  have hx := cp_blk h hB hg
  have hle : w.heap.size ≤ wr.heap.size := h.b.size
  exact ⟨blk_set hx 1 v', Kd.R_set hR hx (by decide) 1 v', Kd.R_set (Kd.R_over (Kd.R_below h.r2 hB) (Kd.R_below h.r1 hB) (by decide) hg) hx (by decide) 1 v', ((h.b.trans (hB.mono hle)).trans hB2).setCell (by exact h.gl) _, h.gl⟩
set_option maxRecDepth 100000 in
set_option maxHeartbeats 1000000 in
theorem copy_calls (p : Pt) (A1 A2 : Option Addr) (c1 c2 : Nat) (w : World) (hC1 : Kd.C k70 w A1 p.f1.length p.f1) (hC2 : Kd.C k35 w A2 p.f2.length p.f2) (hn1 : p.f1.length ≤ 1048576) (hn2 : p.f2.length ≤ 1048576) (hn3 : ∀ x ∈ p.f1, x.f1.length ≤ 1048576) :
    Calls Try.prog 23 #[.agg #[.int .i64 p.f0, .slice A1 p.f1.length c1, .slice A2 p.f2.length c2]] w fun e w' => ∃ v1 v2, e = .returned (.agg #[.int .i64 p.f0, v1, v2]) ∧ k33.M w' w.heap.size (fun _ => True) p [.int .i64 p.f0, v1, v2] ∧ Below w.heap.size w w' := by
  have hz1 : (w.alloc (.cells #[.int .i64 p.f0, .slice A1 p.f1.length c1, .slice A2 p.f2.length c2] 33)).heap.size = w.heap.size + 1 := by simp
  have hV1 := World.alloc_heap_new w (.cells #[.int .i64 p.f0, .slice A1 p.f1.length c1, .slice A2 p.f2.length c2] 33)
  have hb1 : Below w.heap.size w (w.alloc (.cells #[.int .i64 p.f0, .slice A1 p.f1.length c1, .slice A2 p.f2.length c2] 33)) := (Below.refl _ w).alloc (Nat.le_refl _) _
  have hb2 := hb1.alloc (by omega) (.cells #[.int .i64 0, .slice none 0 0, .slice none 0 0] 33)
  have hV2 := (((Below.refl _ (w.alloc (.cells #[.int .i64 p.f0, .slice A1 p.f1.length c1, .slice A2 p.f2.length c2] 33))).alloc (Nat.le_refl _) (.cells #[.int .i64 0, .slice none 0 0, .slice none 0 0] 33)).block w.heap.size (by omega)).trans hV1
  have hV3 := World.alloc_heap_new (w.alloc (.cells #[.int .i64 p.f0, .slice A1 p.f1.length c1, .slice A2 p.f2.length c2] 33)) (.cells #[.int .i64 0, .slice none 0 0, .slice none 0 0] 33)
  rw [hz1] at hV3
  have hz2 : ((w.alloc (.cells #[.int .i64 p.f0, .slice A1 p.f1.length c1, .slice A2 p.f2.length c2] 33)).alloc (.cells #[.int .i64 0, .slice none 0 0, .slice none 0 0] 33)).heap.size = w.heap.size + 2 := by simp
  go_enter Try.func23, Try.ntmps23
  go_upto_region 1 with (fail)
  generalize ((w.alloc (.cells #[.int .i64 p.f0, .slice A1 p.f1.length c1, .slice A2 p.f2.length c2] 33)).alloc (.cells #[.int .i64 0, .slice none 0 0, .slice none 0 0] 33)) = w2 at *
  go_cut [3] (fun s wc => ∃ g v2, s = .pointer (some ⟨g, 0, none⟩) ∧ Cp w2 p g [] (.slice none 0 0) v2 wc)
  case first =>
    have k0 : w2.cell? ⟨w.heap.size, 0, none⟩ = some (.int .i64 p.f0) := cell_of_blk hV2 (j := 0) rfl
    have k2 : w2.cell? ⟨w.heap.size, 2, none⟩ = some (.slice A2 p.f2.length c2) := cell_of_blk hV2 (j := 2) rfl
    have hCa := Kd.C_drew (Kd.C_below hC2 hb2)
    have hCb := Kd.C_drew (Kd.C_alloc (Kd.C_below hC2 hb2) (.cells #[.int .i64 0, .slice none 0 0, .slice none 0 0] 33))
    have hBa : Below w2.heap.size w2 w2.drew := below_drew (Below.refl _ _)
    have hBb : Below w2.heap.size w2 (w2.alloc (.cells #[.int .i64 0, .slice none 0 0, .slice none 0 0] 33)).drew := below_drew ((Below.refl _ _).alloc (Nat.le_refl _) _)
    have hne : w.heap.size ≠ w2.heap.size := by omega
    have hne2 : w2.heap.size ≠ w.heap.size := by omega
    have k0b : (w2.alloc (.cells #[.int .i64 0, .slice none 0 0, .slice none 0 0] 33)).drew.cell? ⟨w.heap.size, 0, none⟩ = some (.int .i64 p.f0) := Lib.cell?_alloc_some _ k0
    have k2b : (w2.alloc (.cells #[.int .i64 0, .slice none 0 0, .slice none 0 0] 33)).drew.cell? ⟨w.heap.size, 2, none⟩ = some (.slice A2 p.f2.length c2) := Lib.cell?_alloc_some _ k2
    go_region_law (first
      | (refine step_copy_f (w := w2) (W := w2.drew) (A := A2) (c := c2) (xs := p.f2) rfl (.const (.slice none 0 0)) (.tmp 8) rfl rfl rfl hCa hn2 hBa ?_; intro v2 W1 hR hB; obtain ⟨Av, cv, rfl⟩ := Kd.R_slice hR; have s0 := pw_cell_below hB (show w2.drew.cell? _ = _ from k0); have s2 := pw_cell_below hB (show w2.drew.cell? _ = _ from k2); have s0b := Lib.cell?_alloc_some (.cells #[.int .i64 0, .slice none 0 0, .slice none 0 0] 33) s0; have s2b := Lib.cell?_alloc_some (.cells #[.int .i64 0, .slice none 0 0, .slice none 0 0] 33) s2; have hBw := hBa.trans (hB.mono hBa.size); have hs1 : w2.heap.size ≤ W1.heap.size := hB.size; have hB2 : Below w2.heap.size w2 W1 := (below_drew (Below.refl w2.heap.size w2)).trans hB)
      | (refine step_copy_f (w := w2) (W := (w2.alloc (.cells #[.int .i64 0, .slice none 0 0, .slice none 0 0] 33)).drew) (A := A2) (c := c2) (xs := p.f2) rfl (.const (.slice none 0 0)) (.tmp 8) rfl rfl rfl hCb hn2 hBb ?_; intro v2 W1 hR hB; obtain ⟨Av, cv, rfl⟩ := Kd.R_slice hR; have s0 := pw_cell_below hB k0b; have s2 := pw_cell_below hB k2b; have hBw := hBb.trans (hB.mono hBb.size)
         have hB2 : Below w2.heap.size w2 W1 := (below_drew ((Below.refl w2.heap.size w2).alloc (Nat.le_refl _) _)).trans (hB.mono (by show _ ≤ (w2.alloc _).heap.size; simp))
         have h0 : W1.heap[w.heap.size + 2]? = some (.cells #[.int .i64 0, .slice none 0 0, .slice none 0 0] 33 (0, 0)) := by
           rw [← hz2]; exact (hB.block _ (by show _ < (w2.alloc _).heap.size; simp)).trans (World.alloc_heap_new w2 _)
         have a3 : ∀ i, W1.frozen? ⟨w.heap.size + 2, i, none⟩ = false := fun i => by simp [World.frozen?, h0]
         have a4 : W1.cell? ⟨w.heap.size + 2, 0, none⟩ = some (.int .i64 0) := by simp [World.cell?, h0]
         have a5 : W1.cell? ⟨w.heap.size + 2, 1, none⟩ = some (.slice none 0 0) := by simp [World.cell?, h0]
         have a6 : W1.cell? ⟨w.heap.size + 2, 2, none⟩ = some (.slice none 0 0) := by simp [World.cell?, h0]
         have a7 : W1.shape? (w.heap.size + 2) = some (33, 3) := by simp [World.shape?, h0]))
    all_goals
      go_wp2_with fail
      go_meet
      case rel => first
        | exact ⟨_, _, rfl, cp1 (w2 := w2) hBw hR⟩
        | exact ⟨_, _, rfl, cp2 hBw h0 (by omega) hR⟩
  case rest =>
    obtain ⟨g, v2, rfl, hI⟩ := hcut
    clear hV1 hz1 hb1
    have HC1 := Lib.hid hC1
    have HV2 := Lib.hid hV2
    have HV3 := Lib.hid hV3
    clear hC1 hC2 hV2 hV3
    go_wp2_with fail
    go_loopw [4] (fun s W => ∃ (k : Nat) (v1 : Value), k ≤ p.f1.length ∧ s = .int .i64 k ∧ Cp w2 p g (p.f1.take k) v1 v2 W) (fun s _ => p.f1.length - (intOf s).toNat)
    case atStart => exact ⟨0, _, Nat.zero_le _, rfl, hI⟩
    case round =>
      clear hI
      obtain ⟨k, v1, hk, rfl, hI⟩ := hrel
      have HI := Lib.hid hI
      have hbx := (hI.b.block w.heap.size (by omega)).trans HV2.out
      have kb1 : wr.cell? ⟨w.heap.size, 1, none⟩ = some (.slice A1 p.f1.length c1) := cell_of_blk hbx (j := 1) rfl
      by_cases hlt : k < p.f1.length
      · have hlt' : decide ((k : Int) < (p.f1.length : Int)) = true := decide_eq_true (by omega)
        obtain ⟨b0, o0, rfl, hb0, hcs⟩ := vecs_of_C HC1.out (by omega)
        obtain ⟨A3, c3, y0, y1, hc3, hC3⟩ := hcs k hlt
        have hBr := hb2.trans (hI.b.mono hb2.size)
        have d0 := (hBr.cell (p := ⟨b0, o0 + k * 2, none⟩) hb0).trans y0
        have d1 := (hBr.cell (p := ⟨b0, o0 + k * 2 + 1, none⟩) hb0).trans y1
        have hC3r := Kd.C_drew (Kd.C_below hC3 hBr)
        have hT : Hid (p.f1.take (k + 1) = p.f1.take k ++ [p.f1[k]]) := Lib.hid (List.take_succ_eq_append_getElem hlt)
        have hn3k := hn3 p.f1[k] (List.getElem_mem hlt)
        have p1 := eq_true (show (0 : Int) ≤ (k : Int) by omega)
        have p2 := eq_true (show (k : Int) < (p.f1.length : Int) by omega)
        have p3 : (k < p.f1.length) = True := eq_true hlt
        have kx : wr.cell? ⟨g, 1, none⟩ = some v1 := cell_of_blk hI.x (j := 1) rfl
        have hR1 := hI.r1
        have hkl : (p.f1.take k).length ≤ 1048576 := by rw [List.length_take]; omega
        clear hcs y0 y1 hC3 hI hbx
        generalize p.f1[k] = vc at *
        generalize p.f1.take k = vs at *
        have hgl := HI.out.gl
        have hgr : g < wr.heap.size := blk_lt HI.out.x
        have hle2 : w2.heap.size ≤ wr.heap.size := HI.out.b.size
        have n0 : w.heap.size ≠ g := by omega
        have n1 : b0 ≠ g := by omega
        have hb02 : b0 < w2.heap.size := by omega
        have hw02 : w.heap.size < w2.heap.size := by omega
        have KS1 : ∀ W1 W2 : World, Same w2.heap.size W1 W2 → (W1.cell? ⟨w.heap.size, 1, none⟩ = some (.slice (some ⟨b0, o0, none⟩) p.f1.length c1) ∧ W1.cell? ⟨b0, o0 + k * 2, none⟩ = some (.string vc.f0) ∧ W1.cell? ⟨b0, o0 + k * 2 + 1, none⟩ = some (.slice A3 vc.f1.length c3)) → (W2.cell? ⟨w.heap.size, 1, none⟩ = some (.slice (some ⟨b0, o0, none⟩) p.f1.length c1) ∧ W2.cell? ⟨b0, o0 + k * 2, none⟩ = some (.string vc.f0) ∧ W2.cell? ⟨b0, o0 + k * 2 + 1, none⟩ = some (.slice A3 vc.f1.length c3)) := fun W1 W2 h ⟨h0, h1, h2⟩ => ⟨h.cell hw02 h0, h.cell hb02 h1, h.cell hb02 h2⟩
        have HKA : Aside _ := fun (W1 : World) (o : Obj) (hw : w2.heap.size ≤ W1.heap.size) => KS1 W1 (W1.alloc o) (.below ((Below.refl w2.heap.size W1).alloc hw o))
        have HKG : Aside _ := fun (W1 : World) (u : Value) => KS1 W1 (W1.setCell ⟨g, 1, none⟩ u) (.below ((Below.refl w2.heap.size W1).setCell (by exact hgl) u))
        have KS0 : wr.drew.cell? ⟨w.heap.size, 1, none⟩ = some (.slice (some ⟨b0, o0, none⟩) p.f1.length c1) ∧ wr.drew.cell? ⟨b0, o0 + k * 2, none⟩ = some (.string vc.f0) ∧ wr.drew.cell? ⟨b0, o0 + k * 2 + 1, none⟩ = some (.slice A3 vc.f1.length c3) := ⟨kb1, d0, d1⟩
        have HKS0 : Aside _ := KS0
        have HKS1 : Aside _ := KS1
        clear KS0 KS1
        go_upto_region 5 with (fail)
        refine wp_region_held_drew (S := (fun w' => w'.cell? ⟨w.heap.size, 1, none⟩ = some (.slice (some ⟨b0, o0, none⟩) p.f1.length c1) ∧ w'.cell? ⟨b0, o0 + k * 2, none⟩ = some (.string vc.f0) ∧ w'.cell? ⟨b0, o0 + k * 2 + 1, none⟩ = some (.slice A3 vc.f1.length c3))) (by kernel_rfl) HKS0.out (fun hHeld => ?_)
        refine wpAnyH_take (i := 0) (oi := { dst := some 18, op := Go.Op.fieldAddr 33 (Go.Operand.tmp 3) 1, type := 0, pos := "ref.go:329", after := #[], guard := none }) (v := ?_) rfl (by kernel_rfl) (by kernel_rfl) (by kernel_rfl) (fun _ _ _ h => h) (Or.inl ⟨by rfl, ?_⟩) (by assumption) ?_
        rotate_left
        · intro w hSw; (try dsimp only at hSw); go_simp; (try with_reducible rfl)
        try simp only [Act.put, List.setIfInBounds_toArray, List.set_cons_zero, List.set_cons_succ]
        refine wpAnyH_take (i := 2) (oi := { dst := some 20, op := Go.Op.fieldAddr 33 (Go.Operand.tmp 1) 1, type := 0, pos := "ref.go:329", after := #[], guard := none }) (v := ?_) rfl (by kernel_rfl) (by kernel_rfl) (by kernel_rfl) (fun _ _ _ h => h) (Or.inl ⟨by rfl, ?_⟩) (by assumption) ?_
        rotate_left
        · intro w hSw; (try dsimp only at hSw); go_simp; (try with_reducible rfl)
        try simp only [Act.put, List.setIfInBounds_toArray, List.set_cons_zero, List.set_cons_succ]
        refine wpAnyH_take (i := 3) (oi := { dst := some 21, op := Go.Op.load 30 (Go.Operand.tmp 20), type := 30, pos := "ref.go:329", after := #[{ on := 2, ground := Go.Ground.data }], guard := none }) (v := ?_) rfl (by kernel_rfl) (by kernel_rfl) (by kernel_rfl) (fun _ _ _ h => h) (Or.inl ⟨by rfl, ?_⟩) (by assumption) ?_
        rotate_left
        · intro w hSw; (try dsimp only at hSw); go_simp; (try with_reducible rfl)
        try simp only [Act.put, List.setIfInBounds_toArray, List.set_cons_zero, List.set_cons_succ]
        refine wpAnyH_take (i := 4) (oi := { dst := some 22, op := Go.Op.move (Go.Operand.tmp 4), type := 3, pos := "ref.go:329", after := #[], guard := none }) (v := ?_) rfl (by kernel_rfl) (by kernel_rfl) (by kernel_rfl) (fun _ _ _ h => h) (Or.inl ⟨by rfl, ?_⟩) (by assumption) ?_
        rotate_left
        · intro w hSw; (try dsimp only at hSw); go_simp; (try with_reducible rfl)
        try simp only [Act.put, List.setIfInBounds_toArray, List.set_cons_zero, List.set_cons_succ]
        refine wpAnyH_take (i := 5) (oi := { dst := some 23, op := Go.Op.indexAddr 30 (Go.Operand.tmp 21) (Go.Operand.tmp 22), type := 0, pos := "ref.go:329", after := #[{ on := 3, ground := Go.Ground.data }, { on := 4, ground := Go.Ground.data }], guard := none }) (v := ?_) rfl (by kernel_rfl) (by kernel_rfl) (by kernel_rfl) (fun _ _ _ h => h) (Or.inl ⟨by rfl, ?_⟩) (by assumption) ?_
        rotate_left
        · intro w hSw; (try dsimp only at hSw); go_simp; (try with_reducible rfl)
        try simp only [Act.put, List.setIfInBounds_toArray, List.set_cons_zero, List.set_cons_succ]
        refine wpAnyH_take (i := 6) (oi := { dst := some 24, op := Go.Op.fieldAddr 70 (Go.Operand.tmp 23) 0, type := 0, pos := "ref.go:329", after := #[{ on := 5, ground := Go.Ground.data }], guard := none }) (v := ?_) rfl (by kernel_rfl) (by kernel_rfl) (by kernel_rfl) (fun _ _ _ h => h) (Or.inl ⟨by rfl, ?_⟩) (by assumption) ?_
        rotate_left
        · intro w hSw; (try dsimp only at hSw); go_simp; (try with_reducible rfl)
        try simp only [Act.put, List.setIfInBounds_toArray, List.set_cons_zero, List.set_cons_succ]
        refine wpAnyH_take (i := 7) (oi := { dst := some 25, op := Go.Op.load 9 (Go.Operand.tmp 24), type := 9, pos := "ref.go:329", after := #[{ on := 6, ground := Go.Ground.data }], guard := none }) (v := ?_) rfl (by kernel_rfl) (by kernel_rfl) (by kernel_rfl) (fun _ _ _ h => h) (Or.inl ⟨by rfl, ?_⟩) (by assumption) ?_
        rotate_left
        · intro w hSw; (try dsimp only at hSw); go_simp; (try with_reducible rfl)
        try simp only [Act.put, List.setIfInBounds_toArray, List.set_cons_zero, List.set_cons_succ]
        refine wpAnyH_take (i := 8) (oi := { dst := some 26, op := Go.Op.fieldAddr 33 (Go.Operand.tmp 1) 1, type := 0, pos := "ref.go:329", after := #[], guard := none }) (v := ?_) rfl (by kernel_rfl) (by kernel_rfl) (by kernel_rfl) (fun _ _ _ h => h) (Or.inl ⟨by rfl, ?_⟩) (by assumption) ?_
        rotate_left
        · intro w hSw; (try dsimp only at hSw); go_simp; (try with_reducible rfl)
        try simp only [Act.put, List.setIfInBounds_toArray, List.set_cons_zero, List.set_cons_succ]
        refine wpAnyH_take (i := 9) (oi := { dst := some 27, op := Go.Op.load 30 (Go.Operand.tmp 26), type := 30, pos := "ref.go:329", after := #[{ on := 8, ground := Go.Ground.data }], guard := none }) (v := ?_) rfl (by kernel_rfl) (by kernel_rfl) (by kernel_rfl) (fun _ _ _ h => h) (Or.inl ⟨by rfl, ?_⟩) (by assumption) ?_
        rotate_left
        · intro w hSw; (try dsimp only at hSw); go_simp; (try with_reducible rfl)
        try simp only [Act.put, List.setIfInBounds_toArray, List.set_cons_zero, List.set_cons_succ]
        refine wpAnyH_take (i := 10) (oi := { dst := some 28, op := Go.Op.move (Go.Operand.tmp 4), type := 3, pos := "ref.go:329", after := #[], guard := none }) (v := ?_) rfl (by kernel_rfl) (by kernel_rfl) (by kernel_rfl) (fun _ _ _ h => h) (Or.inl ⟨by rfl, ?_⟩) (by assumption) ?_
        rotate_left
        · intro w hSw; (try dsimp only at hSw); go_simp; (try with_reducible rfl)
        try simp only [Act.put, List.setIfInBounds_toArray, List.set_cons_zero, List.set_cons_succ]
        refine wpAnyH_take (i := 11) (oi := { dst := some 29, op := Go.Op.indexAddr 30 (Go.Operand.tmp 27) (Go.Operand.tmp 28), type := 0, pos := "ref.go:329", after := #[{ on := 9, ground := Go.Ground.data }, { on := 10, ground := Go.Ground.data }], guard := none }) (v := ?_) rfl (by kernel_rfl) (by kernel_rfl) (by kernel_rfl) (fun _ _ _ h => h) (Or.inl ⟨by rfl, ?_⟩) (by assumption) ?_
        rotate_left
        · intro w hSw; (try dsimp only at hSw); go_simp; (try with_reducible rfl)
        try simp only [Act.put, List.setIfInBounds_toArray, List.set_cons_zero, List.set_cons_succ]
        refine wpAnyH_take (i := 12) (oi := { dst := some 30, op := Go.Op.fieldAddr 70 (Go.Operand.tmp 29) 1, type := 0, pos := "ref.go:329", after := #[{ on := 11, ground := Go.Ground.data }], guard := none }) (v := ?_) rfl (by kernel_rfl) (by kernel_rfl) (by kernel_rfl) (fun _ _ _ h => h) (Or.inl ⟨by rfl, ?_⟩) (by assumption) ?_
        rotate_left
        · intro w hSw; (try dsimp only at hSw); go_simp; (try with_reducible rfl)
        try simp only [Act.put, List.setIfInBounds_toArray, List.set_cons_zero, List.set_cons_succ]
        refine wpAnyH_take (i := 13) (oi := { dst := some 31, op := Go.Op.load 37 (Go.Operand.tmp 30), type := 37, pos := "ref.go:329", after := #[{ on := 12, ground := Go.Ground.data }], guard := none }) (v := ?_) rfl (by kernel_rfl) (by kernel_rfl) (by kernel_rfl) (fun _ _ _ h => h) (Or.inl ⟨by rfl, ?_⟩) (by assumption) ?_
        rotate_left
        · intro w hSw; (try dsimp only at hSw); go_simp; (try with_reducible rfl)
        try simp only [Act.put, List.setIfInBounds_toArray, List.set_cons_zero, List.set_cons_succ]
        refine wpAnyH_ready (rs := [1, 14]) (by kernel_rfl) (by simp) ?_
        refine AllReadyH.cons (o := { dst := some 19, op := Go.Op.load 30 (Go.Operand.tmp 18), type := 30, pos := "ref.go:329", after := #[{ on := 0, ground := Go.Ground.data }], guard := none }) rfl (fun K hK => ?_) ?_
        · go_simp
          refine hK.out _ _ (by (try dsimp only); first | exact HKS0.out | assumption | exact HKA.out _ _ (by assumption) (by assumption) | exact HKG.out _ _ (by assumption) | exact HKS1.out _ _ (by assumption) (by assumption)) (fun hHeld => ?_)
          clear hK K
          refine wpAnyH_ready (rs := [14]) (by kernel_rfl) (by simp) ?_
          refine AllReadyH.cons (o := { dst := some 32, op := Go.Op.call { callee := Go.Callee.builtin Go.Builtin.append, args := #[Go.Operand.const (Go.Value.slice none 0 0), Go.Operand.tmp 31], argTypes := #[37, 37] }, type := 37, pos := "ref.go:329", after := #[{ on := 13, ground := Go.Ground.data }], guard := none }) rfl (fun K hK => ?_) AllReadyH.nil
          refine step_copy_n (w := w2) (W := wr.drew) (A := A3) (c := c3) (xs := vc.f1) rfl (.const (.slice none 0 0)) (.tmp 31) rfl rfl rfl hC3r hn3k hle2 ?_; intro v3 W1 hR3 hB3; obtain ⟨A5, c5, rfl⟩ := Kd.R_slice hR3; have hB1 : Below wr.heap.size wr W1 := (below_drew (Below.refl _ wr)).trans hB3; have hB12 : Same w2.heap.size wr.drew W1 := .below (hB3.mono hle2); have hle21 : w2.heap.size ≤ W1.heap.size := Nat.le_trans hle2 hB1.size; have kx1 := (hB1.cell (p := ⟨g, 1, none⟩) hgr).trans kx; have kx2 := Lib.cell?_alloc_some (.cells #[.string vc.f0, .slice A5 vc.f1.length c5] 70) kx1
          refine hK.out _ _ (by (try dsimp only); first | exact HKS0.out | assumption | exact HKA.out _ _ (by assumption) (by assumption) | exact HKG.out _ _ (by assumption) | exact HKS1.out _ _ (by assumption) (by assumption)) (fun hHeld => ?_)
          clear hK K
          refine wpAnyH_take (i := 15) (oi := { dst := some 33, op := Go.Op.build 70 #[(0, Go.Operand.tmp 25), (1, Go.Operand.tmp 32)], type := 70, pos := "ref.go:329", after := #[{ on := 7, ground := Go.Ground.data }, { on := 14, ground := Go.Ground.data }], guard := none }) (v := ?_) rfl (by kernel_rfl) (by kernel_rfl) (by kernel_rfl) (fun _ _ _ h => h) (Or.inl ⟨by rfl, ?_⟩) (by assumption) ?_
          rotate_left
          · intro w hSw; (try dsimp only at hSw); go_simp; (try with_reducible rfl)
          try simp only [Act.put, List.setIfInBounds_toArray, List.set_cons_zero, List.set_cons_succ]
          refine wpAnyH_ready (rs := [16]) (by kernel_rfl) (by simp) ?_
          refine AllReadyH.cons (o := { dst := some 34, op := Go.Op.buildSlice 30 1 #[(0, Go.Operand.tmp 33)], type := 30, pos := "ref.go:329", after := #[{ on := 15, ground := Go.Ground.data }], guard := none }) rfl (fun K hK => ?_) AllReadyH.nil
          go_simp
          refine hK.out _ _ (by (try dsimp only); first | exact HKS0.out | assumption | exact HKA.out _ _ (by assumption) (by assumption) | exact HKG.out _ _ (by assumption) | exact HKS1.out _ _ (by assumption) (by assumption)) (fun hHeld => ?_)
          clear hK K
          refine wpAnyH_ready (rs := [17]) (by kernel_rfl) (by simp) ?_
          refine AllReadyH.cons (o := { dst := some 35, op := Go.Op.call { callee := Go.Callee.builtin Go.Builtin.append, args := #[Go.Operand.tmp 19, Go.Operand.tmp 34], argTypes := #[30, 30] }, type := 30, pos := "ref.go:329", after := #[{ on := 1, ground := Go.Ground.data }, { on := 16, ground := Go.Ground.data }, { on := 14, ground := Go.Ground.chain }], guard := none }) rfl (fun K hK => ?_) AllReadyH.nil
          refine step_append_v (w := w2) (W := W1) (v := v1) (vs := vs) (x := vc) (v3 := .slice A5 vc.f1.length c5) (B := wr.drew.heap.size) rfl (.tmp 19) (.tmp 34) rfl rfl rfl (Kd.R_below hR1 hB1) hR3 (fun k hk => Kd.R_lt hR1 k hk) hkl (Nat.le_trans hle2 hB1.size) ?_; intro v4 w4 hR4 hg4 hB4; have hx4 := cp_blk HI.out hB1 hg4; obtain ⟨n4, A6, c6, rfl⟩ : ∃ (n : Nat) (A : Option Addr) (c : Nat), v4 = .slice A n c := by obtain ⟨A, c, h⟩ := Kd.R_slice hR4; exact ⟨_, A, c, h⟩
          have hB44 : Same w2.heap.size (W1.alloc (.cells #[.string vc.f0, .slice A5 vc.f1.length c5] 70)) w4 := .alloc hle21 hB4
          have a3 : w4.frozen? ⟨g, 1, none⟩ = false := by simp [World.frozen?, hx4]
          have a5 : w4.cell? ⟨g, 1, none⟩ = some v1 := by simp [World.cell?, hx4]
          have a7 : w4.shape? g = some (33, 3) := by simp [World.shape?, hx4]
          refine hK.out _ _ (by (try dsimp only); first | exact HKS0.out | assumption | exact HKA.out _ _ (by assumption) (by assumption) | exact HKG.out _ _ (by assumption) | exact HKS1.out _ _ (by assumption) (by assumption)) (fun hHeld => ?_)
          clear hK K
          refine wpAnyH_take (i := 18) (oi := { dst := some 36, op := Go.Op.fieldAddr 33 (Go.Operand.tmp 3) 1, type := 0, pos := "ref.go:329", after := #[{ on := 0, ground := Go.Ground.phase }, { on := 1, ground := Go.Ground.phase }, { on := 2, ground := Go.Ground.phase }, { on := 3, ground := Go.Ground.phase }, { on := 4, ground := Go.Ground.phase }, { on := 5, ground := Go.Ground.phase }, { on := 6, ground := Go.Ground.phase }, { on := 7, ground := Go.Ground.phase }, { on := 8, ground := Go.Ground.phase }, { on := 9, ground := Go.Ground.phase }, { on := 10, ground := Go.Ground.phase }, { on := 11, ground := Go.Ground.phase }, { on := 12, ground := Go.Ground.phase }, { on := 13, ground := Go.Ground.phase }, { on := 14, ground := Go.Ground.phase }, { on := 15, ground := Go.Ground.phase }, { on := 16, ground := Go.Ground.phase }, { on := 17, ground := Go.Ground.phase }], guard := none }) (v := ?_) rfl (by kernel_rfl) (by kernel_rfl) (by kernel_rfl) (fun _ _ _ h => h) (Or.inl ⟨by rfl, ?_⟩) (by assumption) ?_
          rotate_left
          · intro w hSw; (try dsimp only at hSw); go_simp; (try with_reducible rfl)
          try simp only [Act.put, List.setIfInBounds_toArray, List.set_cons_zero, List.set_cons_succ]
          refine wpAnyH_ready (rs := [19]) (by kernel_rfl) (by simp) ?_
          refine AllReadyH.cons (o := { dst := none, op := Go.Op.store 30 (Go.Operand.tmp 36) (Go.Operand.tmp 35), type := 0, pos := "ref.go:329", after := #[{ on := 18, ground := Go.Ground.data }, { on := 17, ground := Go.Ground.data }, { on := 17, ground := Go.Ground.chain }, { on := 0, ground := Go.Ground.phase }, { on := 1, ground := Go.Ground.phase }, { on := 2, ground := Go.Ground.phase }, { on := 3, ground := Go.Ground.phase }, { on := 4, ground := Go.Ground.phase }, { on := 5, ground := Go.Ground.phase }, { on := 6, ground := Go.Ground.phase }, { on := 7, ground := Go.Ground.phase }, { on := 8, ground := Go.Ground.phase }, { on := 9, ground := Go.Ground.phase }, { on := 10, ground := Go.Ground.phase }, { on := 11, ground := Go.Ground.phase }, { on := 12, ground := Go.Ground.phase }, { on := 13, ground := Go.Ground.phase }, { on := 14, ground := Go.Ground.phase }, { on := 15, ground := Go.Ground.phase }, { on := 16, ground := Go.Ground.phase }, { on := 17, ground := Go.Ground.phase }], guard := none }) rfl (fun K hK => ?_) AllReadyH.nil
          go_simp
          refine hK.out _ _ (by (try dsimp only); first | exact HKS0.out | assumption | exact HKA.out _ _ (by assumption) (by assumption) | exact HKG.out _ _ (by assumption) | exact HKS1.out _ _ (by assumption) (by assumption)) (fun hHeld => ?_)
          clear hK K
          refine wpAnyH_done (by kernel_rfl) ?_ _
          have hCn := cp_next HI.out hB1 hR4 hg4 hB4
          rw [← hT.out] at hCn
          have HCn := Lib.hid hCn
          clear hCn hx4 hR4 hR3 hg4 hB4
          go_wp2_with fail
          go_roundw
          case rel => exact ⟨k + 1, _, by omega, by go_num, HCn.out⟩
          case measure => simp [intOf]; omega
        refine AllReadyH.cons (o := { dst := some 32, op := Go.Op.call { callee := Go.Callee.builtin Go.Builtin.append, args := #[Go.Operand.const (Go.Value.slice none 0 0), Go.Operand.tmp 31], argTypes := #[37, 37] }, type := 37, pos := "ref.go:329", after := #[{ on := 13, ground := Go.Ground.data }], guard := none }) rfl (fun K hK => ?_) AllReadyH.nil
        refine step_copy_n (w := w2) (W := wr.drew) (A := A3) (c := c3) (xs := vc.f1) rfl (.const (.slice none 0 0)) (.tmp 31) rfl rfl rfl hC3r hn3k hle2 ?_; intro v3 W1 hR3 hB3; obtain ⟨A5, c5, rfl⟩ := Kd.R_slice hR3; have hB1 : Below wr.heap.size wr W1 := (below_drew (Below.refl _ wr)).trans hB3; have hB12 : Same w2.heap.size wr.drew W1 := .below (hB3.mono hle2); have hle21 : w2.heap.size ≤ W1.heap.size := Nat.le_trans hle2 hB1.size; have kx1 := (hB1.cell (p := ⟨g, 1, none⟩) hgr).trans kx; have kx2 := Lib.cell?_alloc_some (.cells #[.string vc.f0, .slice A5 vc.f1.length c5] 70) kx1
        refine hK.out _ _ (by (try dsimp only); first | exact HKS0.out | assumption | exact HKA.out _ _ (by assumption) (by assumption) | exact HKG.out _ _ (by assumption) | exact HKS1.out _ _ (by assumption) (by assumption)) (fun hHeld => ?_)
        clear hK K
        refine wpAnyH_take (i := 15) (oi := { dst := some 33, op := Go.Op.build 70 #[(0, Go.Operand.tmp 25), (1, Go.Operand.tmp 32)], type := 70, pos := "ref.go:329", after := #[{ on := 7, ground := Go.Ground.data }, { on := 14, ground := Go.Ground.data }], guard := none }) (v := ?_) rfl (by kernel_rfl) (by kernel_rfl) (by kernel_rfl) (fun _ _ _ h => h) (Or.inl ⟨by rfl, ?_⟩) (by assumption) ?_
        rotate_left
        · intro w hSw; (try dsimp only at hSw); go_simp; (try with_reducible rfl)
        try simp only [Act.put, List.setIfInBounds_toArray, List.set_cons_zero, List.set_cons_succ]
        refine wpAnyH_ready (rs := [1, 16]) (by kernel_rfl) (by simp) ?_
        refine AllReadyH.cons (o := { dst := some 19, op := Go.Op.load 30 (Go.Operand.tmp 18), type := 30, pos := "ref.go:329", after := #[{ on := 0, ground := Go.Ground.data }], guard := none }) rfl (fun K hK => ?_) ?_
        · go_simp
          refine hK.out _ _ (by (try dsimp only); first | exact HKS0.out | assumption | exact HKA.out _ _ (by assumption) (by assumption) | exact HKG.out _ _ (by assumption) | exact HKS1.out _ _ (by assumption) (by assumption)) (fun hHeld => ?_)
          clear hK K
          refine wpAnyH_ready (rs := [16]) (by kernel_rfl) (by simp) ?_
          refine AllReadyH.cons (o := { dst := some 34, op := Go.Op.buildSlice 30 1 #[(0, Go.Operand.tmp 33)], type := 30, pos := "ref.go:329", after := #[{ on := 15, ground := Go.Ground.data }], guard := none }) rfl (fun K hK => ?_) AllReadyH.nil
          go_simp
          refine hK.out _ _ (by (try dsimp only); first | exact HKS0.out | assumption | exact HKA.out _ _ (by assumption) (by assumption) | exact HKG.out _ _ (by assumption) | exact HKS1.out _ _ (by assumption) (by assumption)) (fun hHeld => ?_)
          clear hK K
          refine wpAnyH_ready (rs := [17]) (by kernel_rfl) (by simp) ?_
          refine AllReadyH.cons (o := { dst := some 35, op := Go.Op.call { callee := Go.Callee.builtin Go.Builtin.append, args := #[Go.Operand.tmp 19, Go.Operand.tmp 34], argTypes := #[30, 30] }, type := 30, pos := "ref.go:329", after := #[{ on := 1, ground := Go.Ground.data }, { on := 16, ground := Go.Ground.data }, { on := 14, ground := Go.Ground.chain }], guard := none }) rfl (fun K hK => ?_) AllReadyH.nil
          refine step_append_v (w := w2) (W := W1) (v := v1) (vs := vs) (x := vc) (v3 := .slice A5 vc.f1.length c5) (B := wr.drew.heap.size) rfl (.tmp 19) (.tmp 34) rfl rfl rfl (Kd.R_below hR1 hB1) hR3 (fun k hk => Kd.R_lt hR1 k hk) hkl (Nat.le_trans hle2 hB1.size) ?_; intro v4 w4 hR4 hg4 hB4; have hx4 := cp_blk HI.out hB1 hg4; obtain ⟨n4, A6, c6, rfl⟩ : ∃ (n : Nat) (A : Option Addr) (c : Nat), v4 = .slice A n c := by obtain ⟨A, c, h⟩ := Kd.R_slice hR4; exact ⟨_, A, c, h⟩
          have hB44 : Same w2.heap.size (W1.alloc (.cells #[.string vc.f0, .slice A5 vc.f1.length c5] 70)) w4 := .alloc hle21 hB4
          have a3 : w4.frozen? ⟨g, 1, none⟩ = false := by simp [World.frozen?, hx4]
          have a5 : w4.cell? ⟨g, 1, none⟩ = some v1 := by simp [World.cell?, hx4]
          have a7 : w4.shape? g = some (33, 3) := by simp [World.shape?, hx4]
          refine hK.out _ _ (by (try dsimp only); first | exact HKS0.out | assumption | exact HKA.out _ _ (by assumption) (by assumption) | exact HKG.out _ _ (by assumption) | exact HKS1.out _ _ (by assumption) (by assumption)) (fun hHeld => ?_)
          clear hK K
          refine wpAnyH_take (i := 18) (oi := { dst := some 36, op := Go.Op.fieldAddr 33 (Go.Operand.tmp 3) 1, type := 0, pos := "ref.go:329", after := #[{ on := 0, ground := Go.Ground.phase }, { on := 1, ground := Go.Ground.phase }, { on := 2, ground := Go.Ground.phase }, { on := 3, ground := Go.Ground.phase }, { on := 4, ground := Go.Ground.phase }, { on := 5, ground := Go.Ground.phase }, { on := 6, ground := Go.Ground.phase }, { on := 7, ground := Go.Ground.phase }, { on := 8, ground := Go.Ground.phase }, { on := 9, ground := Go.Ground.phase }, { on := 10, ground := Go.Ground.phase }, { on := 11, ground := Go.Ground.phase }, { on := 12, ground := Go.Ground.phase }, { on := 13, ground := Go.Ground.phase }, { on := 14, ground := Go.Ground.phase }, { on := 15, ground := Go.Ground.phase }, { on := 16, ground := Go.Ground.phase }, { on := 17, ground := Go.Ground.phase }], guard := none }) (v := ?_) rfl (by kernel_rfl) (by kernel_rfl) (by kernel_rfl) (fun _ _ _ h => h) (Or.inl ⟨by rfl, ?_⟩) (by assumption) ?_
          rotate_left
          · intro w hSw; (try dsimp only at hSw); go_simp; (try with_reducible rfl)
          try simp only [Act.put, List.setIfInBounds_toArray, List.set_cons_zero, List.set_cons_succ]
          refine wpAnyH_ready (rs := [19]) (by kernel_rfl) (by simp) ?_
          refine AllReadyH.cons (o := { dst := none, op := Go.Op.store 30 (Go.Operand.tmp 36) (Go.Operand.tmp 35), type := 0, pos := "ref.go:329", after := #[{ on := 18, ground := Go.Ground.data }, { on := 17, ground := Go.Ground.data }, { on := 17, ground := Go.Ground.chain }, { on := 0, ground := Go.Ground.phase }, { on := 1, ground := Go.Ground.phase }, { on := 2, ground := Go.Ground.phase }, { on := 3, ground := Go.Ground.phase }, { on := 4, ground := Go.Ground.phase }, { on := 5, ground := Go.Ground.phase }, { on := 6, ground := Go.Ground.phase }, { on := 7, ground := Go.Ground.phase }, { on := 8, ground := Go.Ground.phase }, { on := 9, ground := Go.Ground.phase }, { on := 10, ground := Go.Ground.phase }, { on := 11, ground := Go.Ground.phase }, { on := 12, ground := Go.Ground.phase }, { on := 13, ground := Go.Ground.phase }, { on := 14, ground := Go.Ground.phase }, { on := 15, ground := Go.Ground.phase }, { on := 16, ground := Go.Ground.phase }, { on := 17, ground := Go.Ground.phase }], guard := none }) rfl (fun K hK => ?_) AllReadyH.nil
          go_simp
          refine hK.out _ _ (by (try dsimp only); first | exact HKS0.out | assumption | exact HKA.out _ _ (by assumption) (by assumption) | exact HKG.out _ _ (by assumption) | exact HKS1.out _ _ (by assumption) (by assumption)) (fun hHeld => ?_)
          clear hK K
          refine wpAnyH_done (by kernel_rfl) ?_ _
          have hCn := cp_next HI.out hB1 hR4 hg4 hB4
          rw [← hT.out] at hCn
          have HCn := Lib.hid hCn
          clear hCn hx4 hR4 hR3 hg4 hB4
          go_wp2_with fail
          go_roundw
          case rel => exact ⟨k + 1, _, by omega, by go_num, HCn.out⟩
          case measure => simp [intOf]; omega
        refine AllReadyH.cons (o := { dst := some 34, op := Go.Op.buildSlice 30 1 #[(0, Go.Operand.tmp 33)], type := 30, pos := "ref.go:329", after := #[{ on := 15, ground := Go.Ground.data }], guard := none }) rfl (fun K hK => ?_) AllReadyH.nil
        go_simp
        refine hK.out _ _ (by (try dsimp only); first | exact HKS0.out | assumption | exact HKA.out _ _ (by assumption) (by assumption) | exact HKG.out _ _ (by assumption) | exact HKS1.out _ _ (by assumption) (by assumption)) (fun hHeld => ?_)
        clear hK K
        refine wpAnyH_ready (rs := [1]) (by kernel_rfl) (by simp) ?_
        refine AllReadyH.cons (o := { dst := some 19, op := Go.Op.load 30 (Go.Operand.tmp 18), type := 30, pos := "ref.go:329", after := #[{ on := 0, ground := Go.Ground.data }], guard := none }) rfl (fun K hK => ?_) AllReadyH.nil
        go_simp
        refine hK.out _ _ (by (try dsimp only); first | exact HKS0.out | assumption | exact HKA.out _ _ (by assumption) (by assumption) | exact HKG.out _ _ (by assumption) | exact HKS1.out _ _ (by assumption) (by assumption)) (fun hHeld => ?_)
        clear hK K
        refine wpAnyH_ready (rs := [17]) (by kernel_rfl) (by simp) ?_
        refine AllReadyH.cons (o := { dst := some 35, op := Go.Op.call { callee := Go.Callee.builtin Go.Builtin.append, args := #[Go.Operand.tmp 19, Go.Operand.tmp 34], argTypes := #[30, 30] }, type := 30, pos := "ref.go:329", after := #[{ on := 1, ground := Go.Ground.data }, { on := 16, ground := Go.Ground.data }, { on := 14, ground := Go.Ground.chain }], guard := none }) rfl (fun K hK => ?_) AllReadyH.nil
        refine step_append_v (w := w2) (W := W1) (v := v1) (vs := vs) (x := vc) (v3 := .slice A5 vc.f1.length c5) (B := wr.drew.heap.size) rfl (.tmp 19) (.tmp 34) rfl rfl rfl (Kd.R_below hR1 hB1) hR3 (fun k hk => Kd.R_lt hR1 k hk) hkl (Nat.le_trans hle2 hB1.size) ?_; intro v4 w4 hR4 hg4 hB4; have hx4 := cp_blk HI.out hB1 hg4; obtain ⟨n4, A6, c6, rfl⟩ : ∃ (n : Nat) (A : Option Addr) (c : Nat), v4 = .slice A n c := by obtain ⟨A, c, h⟩ := Kd.R_slice hR4; exact ⟨_, A, c, h⟩
        have hB44 : Same w2.heap.size (W1.alloc (.cells #[.string vc.f0, .slice A5 vc.f1.length c5] 70)) w4 := .alloc hle21 hB4
        have a3 : w4.frozen? ⟨g, 1, none⟩ = false := by simp [World.frozen?, hx4]
        have a5 : w4.cell? ⟨g, 1, none⟩ = some v1 := by simp [World.cell?, hx4]
        have a7 : w4.shape? g = some (33, 3) := by simp [World.shape?, hx4]
        refine hK.out _ _ (by (try dsimp only); first | exact HKS0.out | assumption | exact HKA.out _ _ (by assumption) (by assumption) | exact HKG.out _ _ (by assumption) | exact HKS1.out _ _ (by assumption) (by assumption)) (fun hHeld => ?_)
        clear hK K
        refine wpAnyH_take (i := 18) (oi := { dst := some 36, op := Go.Op.fieldAddr 33 (Go.Operand.tmp 3) 1, type := 0, pos := "ref.go:329", after := #[{ on := 0, ground := Go.Ground.phase }, { on := 1, ground := Go.Ground.phase }, { on := 2, ground := Go.Ground.phase }, { on := 3, ground := Go.Ground.phase }, { on := 4, ground := Go.Ground.phase }, { on := 5, ground := Go.Ground.phase }, { on := 6, ground := Go.Ground.phase }, { on := 7, ground := Go.Ground.phase }, { on := 8, ground := Go.Ground.phase }, { on := 9, ground := Go.Ground.phase }, { on := 10, ground := Go.Ground.phase }, { on := 11, ground := Go.Ground.phase }, { on := 12, ground := Go.Ground.phase }, { on := 13, ground := Go.Ground.phase }, { on := 14, ground := Go.Ground.phase }, { on := 15, ground := Go.Ground.phase }, { on := 16, ground := Go.Ground.phase }, { on := 17, ground := Go.Ground.phase }], guard := none }) (v := ?_) rfl (by kernel_rfl) (by kernel_rfl) (by kernel_rfl) (fun _ _ _ h => h) (Or.inl ⟨by rfl, ?_⟩) (by assumption) ?_
        rotate_left
        · intro w hSw; (try dsimp only at hSw); go_simp; (try with_reducible rfl)
        try simp only [Act.put, List.setIfInBounds_toArray, List.set_cons_zero, List.set_cons_succ]
        refine wpAnyH_ready (rs := [19]) (by kernel_rfl) (by simp) ?_
        refine AllReadyH.cons (o := { dst := none, op := Go.Op.store 30 (Go.Operand.tmp 36) (Go.Operand.tmp 35), type := 0, pos := "ref.go:329", after := #[{ on := 18, ground := Go.Ground.data }, { on := 17, ground := Go.Ground.data }, { on := 17, ground := Go.Ground.chain }, { on := 0, ground := Go.Ground.phase }, { on := 1, ground := Go.Ground.phase }, { on := 2, ground := Go.Ground.phase }, { on := 3, ground := Go.Ground.phase }, { on := 4, ground := Go.Ground.phase }, { on := 5, ground := Go.Ground.phase }, { on := 6, ground := Go.Ground.phase }, { on := 7, ground := Go.Ground.phase }, { on := 8, ground := Go.Ground.phase }, { on := 9, ground := Go.Ground.phase }, { on := 10, ground := Go.Ground.phase }, { on := 11, ground := Go.Ground.phase }, { on := 12, ground := Go.Ground.phase }, { on := 13, ground := Go.Ground.phase }, { on := 14, ground := Go.Ground.phase }, { on := 15, ground := Go.Ground.phase }, { on := 16, ground := Go.Ground.phase }, { on := 17, ground := Go.Ground.phase }], guard := none }) rfl (fun K hK => ?_) AllReadyH.nil
        go_simp
        refine hK.out _ _ (by (try dsimp only); first | exact HKS0.out | assumption | exact HKA.out _ _ (by assumption) (by assumption) | exact HKG.out _ _ (by assumption) | exact HKS1.out _ _ (by assumption) (by assumption)) (fun hHeld => ?_)
        clear hK K
        refine wpAnyH_done (by kernel_rfl) ?_ _
        have hCn := cp_next HI.out hB1 hR4 hg4 hB4
        rw [← hT.out] at hCn
        have HCn := Lib.hid hCn
        clear hCn hx4 hR4 hR3 hg4 hB4
        go_wp2_with fail
        go_roundw
        case rel => exact ⟨k + 1, _, by omega, by go_num, HCn.out⟩
        case measure => simp [intOf]; omega
      · have hlt' : decide ((k : Int) < (p.f1.length : Int)) = false := decide_eq_false (by omega)
        have hkl : k = p.f1.length := by omega
        subst hkl
        rw [List.take_length] at HI hI
        obtain ⟨A7, c7, rfl⟩ := Kd.R_slice hI.r1
        obtain ⟨A8, c8, rfl⟩ := Kd.R_slice hI.r2
        have hx := hI.x
        have k0 : wr.cell? ⟨g, 0, none⟩ = some (.int .i64 p.f0) := cell_of_blk hx (j := 0) rfl
        have k1 : wr.cell? ⟨g, 1, none⟩ = some (.slice A7 p.f1.length c7) := cell_of_blk hx (j := 1) rfl
        have k2 : wr.cell? ⟨g, 2, none⟩ = some (.slice A8 p.f2.length c8) := cell_of_blk hx (j := 2) rfl
        have hr3 := (hI.b.block (w.heap.size + 1) (by omega)).trans HV3.out
        obtain ⟨f3, hM, hBe⟩ := cp_end hI hb2 (by omega : w.heap.size ≤ w.heap.size + 1) hr3
        have a3 : ∀ i, wr.frozen? ⟨w.heap.size + 1, i, none⟩ = false := fun i => by simp [World.frozen?, hr3]
        have a4 : wr.cell? ⟨w.heap.size + 1, 0, none⟩ = some (.int .i64 0) := cell_of_blk hr3 (j := 0) rfl
        have a5 : wr.cell? ⟨w.heap.size + 1, 1, none⟩ = some (.slice none 0 0) := cell_of_blk hr3 (j := 1) rfl
        have a6 : wr.cell? ⟨w.heap.size + 1, 2, none⟩ = some (.slice none 0 0) := cell_of_blk hr3 (j := 2) rfl
        have a7 : wr.shape? (w.heap.size + 1) = some (33, 3) := by simp [World.shape?, hr3]
        have HF := Lib.hid f3
        have HM := Lib.hid hM
        have HBe := Lib.hid hBe
        clear hI hx hbx f3 hM hBe
        go_wp2_with fail
        have f3 := HF.out
        have r0 := cell_of_blk f3 (j := 0) rfl
        have r1 := cell_of_blk f3 (j := 1) rfl
        have r2 := cell_of_blk f3 (j := 2) rfl
        exact bodyPost_ret (v := .agg #[.int .i64 p.f0, .slice A7 p.f1.length c7, .slice A8 p.f2.length c8]) (by simp only [results, Try.results23]; simp [go_sem, r0, r1, r2]) rfl ⟨_, _, rfl, HM.out, HBe.out⟩
end Go.Proofs.Ytcpaejdipohndaa.V

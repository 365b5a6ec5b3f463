/- The walk of the law StatsBuilds: what it reads is of bulk at most 1048576. -/
import Derived.Test.YtihanpdfnpgnfaaRKinds
import Derived.Test.YtihanpdfnpgnfaaTJ
import Derived.Test.YtihanpdfnpgnfaaTB
import Derived.Test.YtihanpdfnpgnfaaTS
import Derived.Test.YtihanpdfnpgnfaaSBuild
import Derived.Test.YtihanpdfnpgnfaaSRBuild
import Derived.Deep.DeepCutAuto
import Derived.Test.YtihanpdfnpgnfaaPAllx5
import Derived.Test.YtihanpdfnpgnfaaPAllx11
namespace Go.Proofs.Ytihanpdfnpgnfaa.H
open Go.RowKit Go.Lib Go.Proofs.YtihanpdfnpgnfaaW.PrintWords Go.Proofs.Ytihanpdfnpgnfaa.PAll
set_option linter.unusedVariables false
theorem infoS : (Try.prog.info? 9).map (fun i => (i.zero, i.size, i.bytes)) = some (some (.string ByteArray.empty), 1, 16) := by kernel_rfl
/-- The two lists with one spare behind each. -/
structure LB (W : World) (l0 : List Int) (l1 : List ByteArray) (g8 c8 g6 c6 : Nat) (wr : World) : Prop where
  v : Kd.R (Kd.int .i64) 3 wr W.heap.size (fun _ => True) (.slice (some ⟨g8, 0, none⟩) (l0.length + 1) c8) (l0 ++ [77])
  s : Kd.R Kd.string 9 wr W.heap.size (fun _ => True) (.slice (some ⟨g6, 0, none⟩) (l1.length + 1) c6) (l1 ++ [⟨#[115, 112, 97, 114, 101]⟩])
  B : Below W.heap.size W wr
section
variable {W : World} {l0 : List Int} {l1 : List ByteArray} {g8 c8 g6 c6 : Nat} {wr wr' : World}
theorem LB.below (h : LB W l0 l1 g8 c8 g6 c6 wr) (hb : Below wr.heap.size wr wr') : LB W l0 l1 g8 c8 g6 c6 wr' := ⟨Kd.R_below h.v hb, Kd.R_below h.s hb, h.B.trans (hb.mono h.B.size)⟩
theorem LB.Cv (h : LB W l0 l1 g8 c8 g6 c6 wr) : Kd.C (Kd.int .i64) wr (some ⟨g8, 0, none⟩) l0.length l0 ∧ l0.length + 1 ≤ c8 := by
  have h1 := (Kd.R_reads' (Kd.R_take (m := l0.length) h.v (by simp))).2
  have h2 := (Kd.R_reads' h.v).2.1
  rw [List.take_left] at h1
  exact ⟨h1.2, h2⟩
theorem LB.Cs (h : LB W l0 l1 g8 c8 g6 c6 wr) : Kd.C Kd.string wr (some ⟨g6, 0, none⟩) l1.length l1 ∧ l1.length + 1 ≤ c6 := by
  have h1 := (Kd.R_reads' (Kd.R_take (m := l1.length) h.s (by simp))).2
  have h2 := (Kd.R_reads' h.s).2.1
  rw [List.take_left] at h1
  exact ⟨h1.2, h2⟩
theorem LB.v77 (h : LB W l0 l1 g8 c8 g6 c6 wr) : wr.cell? ⟨g8, l0.length, none⟩ = some (.int .i64 77) := by
  have hC := (Kd.R_reads' h.v).2.2
  obtain ⟨ad, e, hx⟩ := Kd.at_int hC (l0.length : Int) (by omega) (by simp; omega)
  cases e
  have er : rd (l0 ++ [77]) (l0.length : Int) = 77 := by unfold rd; simp
  rwa [Int.toNat_natCast, Addr.add_lit, Nat.zero_add, er] at hx
theorem LB.s77 (h : LB W l0 l1 g8 c8 g6 c6 wr) : wr.cell? ⟨g6, l1.length, none⟩ = some (.string ⟨#[115, 112, 97, 114, 101]⟩) := by
  have hC := (Kd.R_reads' h.s).2.2
  obtain ⟨b, off, e, _, hx⟩ := strs_of_C hC (by simp)
  cases e
  have hx := hx l1.length (by simp)
  have er : (l1 ++ [(⟨#[115, 112, 97, 114, 101]⟩ : ByteArray)]).getD l1.length ByteArray.empty = ⟨#[115, 112, 97, 114, 101]⟩ := by simp
  rwa [Nat.zero_add, er] at hx
end

/-- The counts stand in a box. -/
def Made (w4 : World) (cnt : Int) (bs : List S36) (es : List S41) (s : Value) (wc : World) : Prop := ∃ g Ab cb Ae ce, s = .pointer (some ⟨g, 0, none⟩) ∧ wc.heap[g]? = some (.cells #[.int .i64 cnt, .slice Ab bs.length cb, .slice Ae es.length ce] 27 (0, 0)) ∧ bs.length ≤ cb ∧ Kd.C k36 wc Ab bs.length bs ∧ es.length ≤ ce ∧ Kd.C k41 wc Ae es.length es ∧ w4.heap.size ≤ g ∧ g < wc.heap.size ∧ Below w4.heap.size w4 wc
theorem made1 {w4 W1 : World} {cnt : Int} {bs : List S36} {es : List S41} {Ab Ae : Option Addr} {cb ce b : Nat} (hB : Below w4.heap.size w4 W1) (hR : Kd.R k36 36 W1 b (fun _ => True) (.slice Ab bs.length cb) bs) (hR' : Kd.R k41 41 W1 b (fun _ => True) (.slice Ae es.length ce) es) :
    Made w4 cnt bs es (.pointer (some ⟨W1.heap.size, 0, none⟩)) (W1.alloc (.cells #[.int .i64 cnt, .slice Ab bs.length cb, .slice Ae es.length ce] 27)) := by
  have h1 := (Kd.R_reads' hR).2
  have h2 := (Kd.R_reads' hR').2
  exact ⟨_, _, _, _, _, rfl, World.alloc_heap_new _ _, h1.1, Kd.C_alloc h1.2 _, h2.1, Kd.C_alloc h2.2 _, hB.size, by simp, hB.alloc hB.size _⟩
theorem made2 {w4 W1 : World} {cnt : Int} {bs : List S36} {es : List S41} {Ab Ae : Option Addr} {cb ce b : Nat} (hB : Below w4.heap.size w4 W1) (h0 : W1.heap[w4.heap.size]? = some (.cells #[.int .i64 0, .slice none 0 0, .slice none 0 0] 27 (0, 0))) (hz : w4.heap.size < W1.heap.size) (hR : Kd.R k36 36 W1 b (fun _ => True) (.slice Ab bs.length cb) bs) (hR' : Kd.R k41 41 W1 b (fun _ => True) (.slice Ae es.length ce) es) :
    Made w4 cnt bs es (.pointer (some ⟨w4.heap.size, 0, none⟩)) (((W1.setCell ⟨w4.heap.size, 0, none⟩ (.int .i64 cnt)).setCell ⟨w4.heap.size, 1, none⟩ (.slice Ab bs.length cb)).setCell ⟨w4.heap.size, 2, none⟩ (.slice Ae es.length ce)) := by
  have f1 := blk_set h0 0 (.int .i64 cnt)
  have f2 := blk_set f1 1 (.slice Ab bs.length cb)
  have f3 := blk_set f2 2 (.slice Ae es.length ce)
  have h1 := (Kd.R_reads' (Kd.R_set (Kd.R_set (Kd.R_set hR h0 (by decide) 0 (.int .i64 cnt)) f1 (by decide) 1 (.slice Ab bs.length cb)) f2 (by decide) 2 (.slice Ae es.length ce))).2
  have h2 := (Kd.R_reads' (Kd.R_set (Kd.R_set (Kd.R_set hR' h0 (by decide) 0 (.int .i64 cnt)) f1 (by decide) 1 (.slice Ab bs.length cb)) f2 (by decide) 2 (.slice Ae es.length ce))).2
  exact ⟨_, _, _, _, _, rfl, f3, h1.1, h1.2, h2.1, h2.2, Nat.le_refl _, by simpa [World.setCell] using hz, ((hB.setCell (by exact Nat.le_refl _) _).setCell (by exact Nat.le_refl _) _).setCell (by exact Nat.le_refl _) _⟩

set_option maxHeartbeats 4000000 in
theorem statsBuilds_walk (A0 : Option Addr) (c0 : Nat) (l0 : List Int) (A1 : Option Addr) (c1 : Nat) (l1 : List ByteArray) (n2 : Int) (W : World) (hC0 : Kd.C (Kd.int .i64) W A0 l0.length l0) (hl0 : l0.length ≤ c0) (hG0 : R.AllG R.I64r l0)
    (hC1 : Kd.C Kd.string W A1 l1.length l1) (hl1 : l1.length ≤ c1) (hG1 : R.AllG (fun s : ByteArray => s.size ≤ 1048576) l1) (hG2 : R.I64r n2) :
    Calls Try.prog 3 #[.slice A0 l0.length c0, .slice A1 l1.length c1, .int .i64 n2] W fun e w' => e = .returned (.bool true) ∧ Below W.heap.size W w' := by
  obtain ⟨hn0, hr0⟩ := hG0
  obtain ⟨hn1, hs1⟩ := hG1
  have Hs1 := Lib.hid hs1
  clear hs1 hr0
  go_enter Try.func3, Try.ntmps3
  go_wp2_with (first
    | ((with_reducible refine gate_builtin (b := .append) (xs := #[.const (.slice none 0 0), .tmp 12]) rfl ?_); at_builtin; refine Kd.R_append_rows (Kd.int .i64) (Rr := (Kd.int .i64).K W) (w0 := W) (W := W) W.heap.size rfl (.const (.slice none 0 0)) (.tmp 12) 22 3 (.int .i64 0) 8 rfl Try.underlying22 infoI rfl (by decide) (by decide) (.slice none 0 0) [] l0 A0 l0.length c0 (fun _ => True) (fun _ => False) rfl rfl (Kd.R_nil _ _ _ _ _) hC0 (fun x cs h => h) (fun _ h => h.elim) (fun _ _ => trivial) (Below.refl _ _) (Nat.le_refl _) ?e3 ?_; (case e3 => simp; omega); intro v1 w1 hR1 hb1 hg1 hat1; rw [List.nil_append] at hR1; obtain ⟨A9, c9, rfl⟩ := Kd.R_slice hR1)
    | ((with_reducible refine gate_builtin (b := .append) (xs := #[.tmp 13, .tmp 14]) rfl ?_); at_builtin; refine Kd.R_append (Kd.int .i64) (w0 := W) (W := w1) W.heap.size rfl (.tmp 13) (.tmp 14) 22 3 (.int .i64 0) 8 rfl Try.underlying22 infoI rfl (by decide) (by decide) (.slice A9 l0.length c9) l0 77 [.int .i64 77] (fun _ => True) (fun _ => False) rfl rfl rfl (fun _ h => h.elim) (fun _ _ => trivial) hR1 hb1 hb1.size ?e3 ?_; (case e3 => omega); intro v2 w2 hR2 hb2 hg2 hat2; obtain ⟨A8, c8, rfl⟩ := Kd.R_slice hR2)
    | ((with_reducible refine gate_builtin (b := .append) (xs := #[.const (.slice none 0 0), .tmp 16]) rfl ?_); at_builtin; refine Kd.R_append_rows Kd.string (Rr := Kd.string.K w2) (w0 := W) (W := w2) W.heap.size rfl (.const (.slice none 0 0)) (.tmp 16) 23 9 (.string ByteArray.empty) 16 rfl Try.underlying23 infoS rfl (by decide) (by decide) (.slice none 0 0) [] l1 A1 l1.length c1 (fun _ => True) (fun _ => False) rfl rfl (Kd.R_nil _ _ _ _ _) (Kd.C_below hC1 hb2) (fun x cs h => h) (fun _ h => h.elim) (fun _ _ => trivial) hb2 hb2.size ?e3 ?_; (case e3 => simp; omega); intro v3 w3 hR3 hb3 hg3 hat3; rw [List.nil_append] at hR3; obtain ⟨A7, c7, rfl⟩ := Kd.R_slice hR3)
    | ((with_reducible refine gate_builtin (b := .append) (xs := #[.tmp 17, .tmp 18]) rfl ?_); at_builtin; refine Kd.R_append Kd.string (w0 := W) (W := w3) W.heap.size rfl (.tmp 17) (.tmp 18) 23 9 (.string ByteArray.empty) 16 rfl Try.underlying23 infoS rfl (by decide) (by decide) (.slice A7 l1.length c7) l1 ⟨#[115, 112, 97, 114, 101]⟩ [.string ⟨#[115, 112, 97, 114, 101]⟩] (fun _ => True) (fun _ => False) rfl rfl rfl (fun _ h => h.elim) (fun _ _ => trivial) hR3 hb3 hb3.size ?e3 ?_; (case e3 => omega); intro v4 w4 hR4 hb4 hg4 hat4; obtain ⟨A6, c6, rfl⟩ := Kd.R_slice hR4)
    | fail)
  have hV3 := Kd.R_grown2 hR2 rfl hg3 (fun k e => by cases e)
  have hV4 := Kd.R_over hV3 hR3 (by decide) hg4
  obtain ⟨g8, _, e8, -⟩ := Kd.R_form hV4 (by simp)
  obtain ⟨g6, _, e6, -⟩ := Kd.R_form hR4 (by simp)
  cases e8
  cases e6
  have hL : LB W l0 l1 g8 c8 g6 c6 w4 := ⟨by have := hV4; rwa [List.length_append] at this, by have := hR4; rwa [List.length_append] at this, hb4⟩
  clear hR1 hb1 hg1 hat1 hR2 hb2 hg2 hat2 hR3 hb3 hg3 hat3 hR4 hb4 hg4 hat4 hV3 hV4
  have hCv := hL.Cv
  have hCs := hL.Cs
  have p1 := eq_true hCv.2
  go_cut [9] (fun s wc => Made w4 (l0.length + l1.length) (bks l0 n2) (ents (l1.map hashOf)) s wc)
  case first =>
    have CB := build_calls (some ⟨g8, 0, none⟩) c8 l0 (some ⟨g6, 0, none⟩) c6 l1 n2 w4.drew (Kd.C_drew hCv.1) (Kd.C_drew hCs.1) hn0 hn1 Hs1.out
    have q1 : ((0 : Int) ≤ (l0.length : Int)) = True := eq_true (by omega)
    have q2 : ((l0.length : Int) ≤ (c8 : Int)) = True := eq_true (by omega)
    have q3 : ((l1.length : Int) ≤ (c6 : Int)) = True := eq_true (by omega)
    have q4 : (l0.length ≤ c8) = True := eq_true (by omega)
    have q5 : (l1.length ≤ c6) = True := eq_true (by omega)
    have CB2 := build_calls (some ⟨g8, 0, none⟩) c8 l0 (some ⟨g6, 0, none⟩) c6 l1 n2 (w4.alloc (.cells #[.int .i64 0, .slice none 0 0, .slice none 0 0] 27)).drew (Kd.C_drew (Kd.C_alloc hCv.1 _)) (Kd.C_drew (Kd.C_alloc hCs.1 _)) hn0 hn1 Hs1.out
    clear hCv hCs
    generalize bks l0 n2 = bs at *
    generalize ents (l1.map hashOf) = es at *
    go_region_law (first
      | (go_simp; refine CB.mono ?_; rintro e W1 ⟨v, v', rfl, hR, hR', hB⟩; obtain ⟨Ab, cb, rfl⟩ := Kd.R_slice hR; obtain ⟨Ae, ce, rfl⟩ := Kd.R_slice hR'; have hBw : Below w4.heap.size w4 W1 := (below_drew (Below.refl w4.heap.size w4)).trans hB; dsimp only)
      | (go_simp; refine CB2.mono ?_; rintro e W1 ⟨v, v', rfl, hR, hR', hB⟩; obtain ⟨Ab, cb, rfl⟩ := Kd.R_slice hR; obtain ⟨Ae, ce, rfl⟩ := Kd.R_slice hR'
         have hsz : w4.heap.size < W1.heap.size := Nat.lt_of_lt_of_le (by show _ < (w4.alloc _).heap.size; simp) hB.size
         have hBw : Below w4.heap.size w4 W1 := (below_drew ((Below.refl w4.heap.size w4).alloc (Nat.le_refl _) _)).trans (hB.mono (by show _ ≤ (w4.alloc _).heap.size; simp))
         have h0 : W1.heap[w4.heap.size]? = some (.cells #[.int .i64 0, .slice none 0 0, .slice none 0 0] 27 (0, 0)) := (hB.block _ (by show _ < (w4.alloc _).heap.size; simp)).trans (World.alloc_heap_new w4 _)
         have a3 : ∀ i, W1.frozen? ⟨w4.heap.size, i, none⟩ = false := fun i => by simp [World.frozen?, h0]
         have a4 : W1.cell? ⟨w4.heap.size, 0, none⟩ = some (.int .i64 0) := by simp [World.cell?, h0]
         have a5 : W1.cell? ⟨w4.heap.size, 1, none⟩ = some (.slice none 0 0) := by simp [World.cell?, h0]
         have a6 : W1.cell? ⟨w4.heap.size, 2, none⟩ = some (.slice none 0 0) := by simp [World.cell?, h0]
         have a7 : W1.shape? w4.heap.size = some (27, 3) := by simp [World.shape?, h0]
         dsimp only))
    all_goals
      go_wp2_with fail
      go_meet
      case rel => first | exact made1 hBw hR hR' | exact made2 hBw h0 hsz hR hR'
  case rest =>
    obtain ⟨g, Ab, cb, Ae, ce, rfl, hb, hcb, hCb, hce, hCe, hg0, hg1, hBw⟩ := hcut
    have hL2 := hL.below hBw
    clear hL hBw hCv hCs p1
    have hx0 : wc.cell? ⟨g, 0, none⟩ = some (.int .i64 (l0.length + l1.length)) := by simp [World.cell?, hb]
    have hx1 : wc.cell? ⟨g, 1, none⟩ = some (.slice Ab (bks l0 n2).length cb) := by simp [World.cell?, hb]
    have hx2 : wc.cell? ⟨g, 2, none⟩ = some (.slice Ae (ents (l1.map hashOf)).length ce) := by simp [World.cell?, hb]
    obtain ⟨ks, hks⟩ := Pure.same_ex ((l0.length : Int) + (l1.length : Int)) (bks l0 n2) (ents (l1.map hashOf)) (Pure.sumB_b hn0).1 (by have := ents_len (l1.map hashOf); rw [List.length_map] at this; omega)
    have hA0 : Kd.C (Kd.int .i64) wc A0 l0.length l0 := Kd.C_below hC0 hL2.B
    have hA1 : Kd.C Kd.string wc A1 l1.length l1 := Kd.C_below hC1 hL2.B
    have hcv := hL2.Cv.2
    have hcs := hL2.Cs.2
    have HKS := Lib.hid hks
    clear hks
    go_upto_region 3 with (fail)
    go_cut [52] (fun s wd => s = .bool false ∧ LB W l0 l1 g8 c8 g6 c6 wd)
    case first =>
      have RB := rbuild_calls A0 c0 l0 A1 c1 l1 n2 wc.drew (Kd.C_drew hA0) hl0 (Kd.C_drew hA1) hn0 hn1 Hs1.out
      generalize bks l0 n2 = bs at *
      generalize ents (l1.map hashOf) = es at *
      have q1 : ((l0.length : Int) < (l0.length : Int) + 1) = True := eq_true (by omega)
      have q2 : ((l1.length : Int) < (l1.length : Int) + 1) = True := eq_true (by omega)
      have HL2 := Lib.hid hL2
      clear hL2 hA0 hA1 hcv hcs
      go_region_law (first
        | (go_simp; refine RB.mono ?_; rintro e W1 ⟨v, v', rfl, hR, hR', hB⟩; obtain ⟨Ab2, cb2, rfl, hcb2, hCb2⟩ := Kd.R_reads hR; obtain ⟨Ae2, ce2, rfl, hce2, hCe2⟩ := Kd.R_reads hR'
           have hBw : Below wc.heap.size wc W1 := (below_drew (Below.refl wc.heap.size wc)).trans hB
           have y0 := (hBw.cell (p := ⟨g, 0, none⟩) hg1).trans hx0
           have y1 := (hBw.cell (p := ⟨g, 1, none⟩) hg1).trans hx1
           have y2 := (hBw.cell (p := ⟨g, 2, none⟩) hg1).trans hx2
           have SC := lodestarref15_Same.calls ks ((l0.length : Int) + (l1.length : Int)) Ab cb bs Ae ce es ((l0.length : Int) + (l1.length : Int)) Ab2 cb2 bs Ae2 ce2 es true W1 (Kd.C_below hCb hBw) hcb (Kd.C_below hCe hBw) hce hCb2 hcb2 hCe2 hce2 HKS.out
           clear hR hR' hB hCb2 hCe2
           dsimp only)
        | (go_simp; refine SC.mono ?_; rintro e W2 ⟨rfl, hB2⟩
           have hL3 := (HL2.out.below hBw).below hB2
           have z0 := hL3.v77
           have z1 := hL3.s77
           have HL3 := Lib.hid hL3
           clear SC hL3
           dsimp only))
      all_goals
        go_wp2_with fail
        go_meet
        case rel => exact ⟨rfl, HL3.out⟩
    case rest =>
      obtain ⟨rfl, hL3⟩ := hcut
      clear hL2 hb hCb hCe hx0 hx1 hx2 hA0 hA1
      go_wp2_with fail
      go_loopw [10] (fun s wr => ∃ i : Nat, i ≤ l0.length ∧ s = .int .i64 i ∧ LB W l0 l1 g8 c8 g6 c6 wr) (fun s _ => l0.length - (intOf s).toNat)
      case atStart => exact ⟨0, by omega, rfl, hL3⟩
      case round =>
        clear hL3
        obtain ⟨i, hil, rfl, hL⟩ := hrel
        by_cases hlt : i < l0.length
        · have hlt' : decide ((i : Int) < (l0.length : Int)) = true := decide_eq_true (by omega)
          have HL : Hid (i + 1 ≤ l0.length) := Lib.hid (by omega)
          obtain ⟨ad, e0, hx⟩ := Kd.at_int (Kd.C_below hC0 hL.B) (i : Int) (by omega) (by omega)
          cases e0
          obtain ⟨ad2, e0, hy⟩ := Kd.at_int hL.Cv.1 (i : Int) (by omega) (by omega)
          cases e0
          rw [Int.toNat_natCast] at hx
          rw [Int.toNat_natCast, Addr.add_lit, Nat.zero_add] at hy
          have p1 := eq_true hlt
          have p2 : ((i : Int) < (l0.length : Int) + 1) = True := eq_true (by omega)
          have p3 : (i < l0.length + 1) = True := eq_true (by omega)
          clear hlt
          go_wp2_with fail
          go_quiet (fail)
          go_wp2_with fail
          exact ⟨⟨i + 1, HL.out, rfl, hL.below (pw_below_drewN (Below.refl _ _) _)⟩, by have := HL.out; simp only [intOf]; omega⟩
        · have hlt' : decide ((i : Int) < (l0.length : Int)) = false := decide_eq_false (by omega)
          obtain rfl : i = l0.length := by omega
          clear hlt hil
          go_wp2_with fail
          go_loopw [11] (fun s wr => ∃ i : Nat, i ≤ l1.length ∧ s = .int .i64 i ∧ LB W l0 l1 g8 c8 g6 c6 wr) (fun s _ => l1.length - (intOf s).toNat)
          case atStart => exact ⟨0, by omega, rfl, hL⟩
          case round =>
            clear hL
            obtain ⟨j, hjl, rfl, hL⟩ := hrel
            by_cases hlt : j < l1.length
            · have hlt2 : decide ((j : Int) < (l1.length : Int)) = true := decide_eq_true (by omega)
              have HL : Hid (j + 1 ≤ l1.length) := Lib.hid (by omega)
              obtain ⟨b1, o1, rfl, _, hx⟩ := strs_of_C (Kd.C_below hC1 hL.B) (by omega)
              obtain ⟨b2, o2, e2, _, hy⟩ := strs_of_C hL.Cs.1 (by omega)
              cases e2
              replace hx := hx j hlt
              replace hy := hy j hlt
              rw [Nat.zero_add] at hy
              generalize l1.getD j ByteArray.empty = s at hx hy
              have p1 := eq_true hlt
              have p2 : ((j : Int) < (l1.length : Int) + 1) = True := eq_true (by omega)
              have p3 : (j < l1.length + 1) = True := eq_true (by omega)
              clear hlt
              go_wp2_with fail
              go_quiet (fail)
              go_wp2_with fail
              exact ⟨⟨j + 1, HL.out, rfl, hL.below (pw_below_drewN (Below.refl _ _) _)⟩, by have := HL.out; simp only [intOf]; omega⟩
            · have hlt2 : decide ((j : Int) < (l1.length : Int)) = false := decide_eq_false (by omega)
              obtain rfl : j = l1.length := by omega
              clear hlt hjl
              go_wp2_with fail
              refine (lodestarlaw15_awake.calls 60 true _ (Pure.awake_eq (Nat.le_refl _))).mono ?_
              rintro e w5 ⟨rfl, hb5⟩
              have hB := hL.B.trans (hb5.mono hL.B.size)
              clear hL hb5
              go_wp2_with fail
              go_ret
              exact ⟨rfl, hB⟩
end Go.Proofs.Ytihanpdfnpgnfaa.H

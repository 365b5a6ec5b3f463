/- RangesTurned: the law's walk: whatever entries (at most 1048576) and bounds come in, it answers true. -/
import Derived.Test.YtdbdkcmbenokbaaGSame
namespace Go.Proofs.Ytdbdkcmbenokbaa.H
open Go.RowKit Go.Lib Go.Shelf Go.Proofs.YtdbdkcmbenokbaaW.PrintWords Go.Proofs.YtdbdkcmbenokbaaW.PrintMore Go.Proofs.Ytdbdkcmbenokbaa.PAll Go.Proofs.Ytdbdkcmbenokbaa.G
set_option linter.unusedVariables false

theorem rev_step {α : Type} (l : List α) (m : Nat) (h : m < l.length) : (l.drop m).reverse = (l.drop (m + 1)).reverse ++ [l[m]] := by
  rw [List.drop_eq_getElem_cons h, List.reverse_cons]
/-- How far the turning has come: the place that is next, -1 behind the last. -/
def Nx (v : Value) (j : Nat) : Prop := (j = 0 ∧ v = .int .i64 (-1)) ∨ ∃ m : Nat, j = m + 1 ∧ v = .int .i64 m
theorem nx_of (j : Nat) : Nx (.int .i64 ((j : Int) - 1)) j := by
  cases j with
  | zero => exact .inl ⟨rfl, rfl⟩
  | succ m => exact .inr ⟨m, rfl, by rw [show ((m + 1 : Nat) : Int) - 1 = (m : Int) by omega]⟩
set_option maxRecDepth 100000 in
set_option maxHeartbeats 4000000 in
theorem rangesTurned_walk (A0 : Option Addr) (c0 : Nat) (l0 : List S32) (n1 n2 : Int) (W : World) (hC0 : Kd.C k32 W A0 l0.length l0) (hl0 : l0.length ≤ c0) (hG0 : R.AllG EnG l0) (hG1 : R.I64r n1) (hG2 : R.I64r n2) :
    Calls Try.prog 4 #[.slice A0 l0.length c0, .int .i64 n1, .int .i64 n2] W fun e w' => e = .returned (.bool true) ∧ Below W.heap.size W w' := by
  obtain ⟨hn0, -⟩ := hG0
  have hlenL : (norm (l0.map toP)).length ≤ 1048576 := by have := norm_le (l0.map toP); rw [List.length_map] at this; omega
  have hsame : norm ((l0.reverse ++ l0).map toP) = norm (l0.map toP) := norm_same (fun x => by simp)
  have hss := norm_sorted (l0.map toP)
  have HC0 := Lib.hid hC0
  clear hC0
  go_enter Try.func4, Try.ntmps4
  go_wp2_with fail
  go_loopw [7, 8] (fun v i wr => ∃ j : Nat, j ≤ l0.length ∧ Nx i j ∧ Kd.R k32 32 wr W.heap.size (fun _ => True) v (l0.drop j).reverse ∧ Below W.heap.size W wr) (fun _ i _ => ((intOf i) + 1).toNat)
  case atStart => exact ⟨l0.length, Nat.le_refl _, nx_of _, by rw [List.drop_length]; exact Kd.R_nil _ _ _ _ _, Below.refl _ _⟩
  case round =>
    obtain ⟨j, hj, hx, hv, hb⟩ := hrel
    rcases hx with ⟨rfl, rfl⟩ | ⟨m, rfl, rfl⟩
    · rw [List.drop_zero] at hv
      have hC1 := Kd.C_below HC0.out hb
      have HV := Lib.hid hv
      have HBB := Lib.hid hb
      have hlen2 : (l0.reverse.length + l0.length) * 16 ≤ 140737488355328 := by rw [List.length_reverse]; omega
      have HL2 := Lib.hid hlen2
      clear hv hb hlen2
      go_wp2_with ((with_reducible refine gate_builtin (b := .append) (xs := #[.tmp 25, .tmp 26]) rfl ?_); at_builtin; refine Kd.R_append_rows k32 (Rr := k32.K wr) (w0 := W) W.heap.size rfl (.tmp 25) (.tmp 26) 22 32 (.agg #[.int .i64 0, .int .i64 0]) 16 rfl Try.underlying22 info32 rfl (by decide) (by decide) _ l0.reverse l0 A0 l0.length c0 (fun _ => True) (fun _ => False) rfl rfl HV.out hC1 (fun x cs h => k_KM h) (fun _ h => h.elim) (fun _ _ => trivial) HBB.out HBB.out.size HL2.out ?_; intro v1 w1 hR1 hb1 hg1 hat1)
      obtain ⟨A9, c9, rfl, hc9, hC9⟩ := Kd.R_reads hR1
      have CB1 := build_calls A0 c0 (l0.map toP) w1 (rdE_of_C (Kd.C_below HC0.out hb1)) (by rw [List.length_map]; omega)
      have CB2 := fun w' (h : Below w1.heap.size w1 w') => build_calls A9 c9 ((l0.reverse ++ l0).map toP) w' ((rdE_of_C hC9).below h) (by simp; omega)
      rw [List.length_map] at CB1
      simp only [hsame] at CB2
      simp only [List.length_map] at CB2
      have HB1 := Lib.hid hb1
      clear hR1 hb1 hg1 hat1 hC9 hsame hC1 HV HBB HL2
      generalize norm (l0.map toP) = L at *
      generalize (l0.reverse ++ l0).length = n9 at *
      have KB := fun x base w (hI : Idx w base x L) => between_calls x base L n1 n2 w hI hss (by omega)
      have KE := fun x base w (hI : Idx w base x L) => entries_calls x base L w hI (by omega)
      have hrl : (rangeI L n1 n2).length ≤ 1048576 := Nat.le_trans (rangeI_le _ _ _) hlenL
      generalize rangeI L n1 n2 = ri at *
      go_wp2_with fail
      refine CB1.mono ?_
      rintro e w2 ⟨x, rfl, hI, hB⟩
      have C2 := CB2 w2 hB
      have HI := Lib.hid hI
      have HB2 := Lib.hid (HB1.out.trans (hB.mono HB1.out.size))
      clear CB1 CB2 hI hB HB1
      go_wp2_with fail
      refine C2.mono ?_
      rintro e w3 ⟨y, rfl, hJ, hB⟩
      have HI3 := Lib.hid (HI.out.below hB)
      have HJ3 := Lib.hid hJ
      have HB3 := Lib.hid (HB2.out.trans (hB.mono HB2.out.size))
      clear C2 hJ hB HI HB2
      go_wp2_with fail
      refine (KE x _ w3 HI3.out).mono ?_
      rintro e w4 ⟨v4, rfl, hv4, hB⟩
      obtain ⟨A4, c4, rfl, hc4, hr4⟩ := rowV_read hv4
      have HR4 := Lib.hid hr4
      have HC4 := Lib.hid hc4
      have HI4 := Lib.hid (HI3.out.below hB)
      have HJ4 := Lib.hid (HJ3.out.below hB)
      have HB4 := Lib.hid (HB3.out.trans (hB.mono HB3.out.size))
      clear hv4 hr4 hc4 hB HI3 HJ3 HB3
      go_wp2_with fail
      refine (KE y _ w4 HJ4.out).mono ?_
      rintro e w5 ⟨v5, rfl, hv5, hB⟩
      obtain ⟨A5, c5, rfl, hc5, hr5⟩ := rowV_read hv5
      have CS := sameV_calls A4 c4 L A5 c5 w5 (HR4.out.below hB) HC4.out hr5 hc5 (by omega)
      have HI5 := Lib.hid (HI4.out.below hB)
      have HJ5 := Lib.hid (HJ4.out.below hB)
      have HB5 := Lib.hid (HB4.out.trans (hB.mono HB4.out.size))
      clear hv5 hr5 hc5 hB HI4 HJ4 HB4 HR4 HC4
      go_wp2_with fail
      refine CS.mono ?_
      rintro e w6 ⟨rfl, hB⟩
      have HI6 := Lib.hid (HI5.out.below hB)
      have HJ6 := Lib.hid (HJ5.out.below hB)
      have HB6 := Lib.hid (HB5.out.trans (hB.mono HB5.out.size))
      clear CS hB HI5 HJ5 HB5
      go_wp2_with fail
      refine (KB x _ w6 HI6.out).mono ?_
      rintro e w7 ⟨v7, rfl, hR, hB⟩
      obtain ⟨A7, c7, rfl, hc7, hC7⟩ := R_C hR
      have HC7 := Lib.hid hC7
      have HCC7 := Lib.hid hc7
      have HJ7 := Lib.hid (HJ6.out.below hB)
      have HB7 := Lib.hid (HB6.out.trans (hB.mono HB6.out.size))
      clear hR hC7 hc7 hB HI6 HJ6 HB6
      go_wp2_with fail
      refine (KB y _ w7 HJ7.out).mono ?_
      rintro e w8 ⟨v8, rfl, hR, hB⟩
      obtain ⟨A8, c8, rfl, hc8, hC8⟩ := R_C hR
      have CI := ints_calls A7 c7 ri A8 c8 ri w8 (Kd.C_below HC7.out hB) HCC7.out hC8 hc8 (by omega)
      rw [decide_eq_true rfl] at CI
      have HB8 := Lib.hid (HB7.out.trans (hB.mono HB7.out.size))
      clear hR hC8 hc8 hB HC7 HCC7 HJ7 HB7
      go_wp2_with fail
      refine CI.mono ?_
      rintro e w9 ⟨rfl, hB⟩
      have HB9 := Lib.hid (HB8.out.trans (hB.mono HB8.out.size))
      clear CI hB HB8
      go_wp2_with fail
      refine (awake_calls w9).mono ?_
      rintro e w10 ⟨rfl, hB⟩
      have HB10 := Lib.hid (HB9.out.trans (hB.mono HB9.out.size))
      clear hB HB9
      go_wp2_with fail
      go_ret
      exact ⟨rfl, HB10.out⟩
    · have hlt : m < l0.length := by omega
      obtain ⟨b, off, rfl, hcs⟩ := (rdE_of_C (Kd.C_below HC0.out hb)).cells (by rw [List.length_map]; omega)
      obtain ⟨k0, k1⟩ := hcs m (by rw [List.length_map]; exact hlt)
      have e : (l0.map toP).toArray[m]! = toP l0[m] := by rw [getElem!_pos _ _ (by simpa using hlt)]; simp
      rw [e] at k0 k1
      have hst := rev_step l0 m hlt
      have hl9 : (l0.drop (m + 1)).reverse.length ≤ 1048576 := by simp; omega
      have HST := Lib.hid hst
      have HL9 := Lib.hid hl9
      generalize (l0.drop (m + 1)).reverse = pre at *
      generalize l0[m] = y at *
      obtain ⟨y1, y2⟩ := y
      change wr.cell? ⟨b, off + m * 2, none⟩ = some (.int .i64 y1) at k0
      change wr.cell? ⟨b, off + m * 2 + 1, none⟩ = some (.int .i64 y2) at k1
      have HV := Lib.hid hv
      have HBB := Lib.hid hb
      have q1 : ((m : Int) < (l0.length : Int)) = True := eq_true (by omega)
      have q2 : (m < l0.length) = True := eq_true hlt
      clear hv hb hcs hst hl9 e
      go_wp2_with ((with_reducible refine gate_builtin (b := .append) (xs := #[.tmp 18, .tmp 23]) rfl ?_); at_builtin; refine Kd.R_append k32 (w0 := W) W.heap.size rfl (.tmp 18) (.tmp 23) 22 32 (.agg #[.int .i64 0, .int .i64 0]) 16 rfl Try.underlying22 info32 rfl (by decide) (by decide) _ pre ⟨y1, y2⟩ [.int .i64 y1, .int .i64 y2] (fun _ => True) (fun _ => False) rfl rfl (k32_mkM _ _ _ ⟨y1, y2⟩) (fun _ h => h.elim) (fun _ _ => trivial) HV.out HBB.out HBB.out.size ?e2 ?_; (case e2 => have := HL9.out; omega); intro v2 w2 hR2 hb2 hg2 hat2)
      exact ⟨⟨m, by omega, nx_of m, by rw [HST.out]; exact hR2, hb2⟩, by simp only [intOf]; omega⟩
end Go.Proofs.Ytdbdkcmbenokbaa.H

/- Ranges: Between: the rising list of the ids of a range, each once. -/
import Derived.Test.YtdbdkcmbenokbaaGMeth
import Derived.Test.YtdbdkcmbenokbaaPAllx4
namespace Go.Proofs.Ytdbdkcmbenokbaa.G
open Go.RowKit Go.Sort Go.Lib Go.Shelf Go.Proofs.YtdbdkcmbenokbaaW.PrintWords Go.Proofs.YtdbdkcmbenokbaaW.PrintLast Go.Proofs.YtdbdkcmbenokbaaW.PrintMore Go.Proofs.Ytdbdkcmbenokbaa.PAll
set_option linter.unusedVariables false

theorem RdE.cells {W : World} {A : Option Addr} {l : List En} (h : RdE W A l) (hn : 0 < l.length) : ∃ b off, A = some ⟨b, off, none⟩ ∧ ∀ j, j < l.length → W.cell? ⟨b, off + j * 2, none⟩ = some (.int .i64 l.toArray[j]!.1) ∧ W.cell? ⟨b, off + j * 2 + 1, none⟩ = some (.int .i64 l.toArray[j]!.2) := by
  obtain ⟨ad, rfl, hc⟩ := h hn
  obtain ⟨b, off, sp⟩ := ad
  have h0 := hc 0 _ (flatE_at l 0 hn).1
  have hsp : sp = none := by
    cases sp with
    | none => rfl
    | some s =>
      simp only [Addr.add, if_true, World.cell?] at h0
      split at h0 <;> simp at h0
  subst hsp
  refine ⟨b, off, rfl, fun j hj => ?_⟩
  obtain ⟨f0, f1⟩ := flatE_at l j hj
  have g0 := hc _ _ f0
  have g1 := hc _ _ f1
  rw [Addr.add_lit] at g0 g1
  rw [← Nat.add_assoc] at g1
  exact ⟨g0, g1⟩
/-- What Between makes of the numbers: the rising list of them, each once. -/
def unionL (l : List Int) : List Int := H.someL l [] [1, 2, 3]
theorem infoI : (Try.prog.info? 3).map (fun i => (i.zero, i.size, i.bytes)) = some (some (.int .i64 0), 1, 8) := by kernel_rfl
theorem snd_take (l : List En) (k : Nat) (hk : k < l.length) : (l.take (k + 1)).map (·.2) = (l.take k).map (·.2) ++ [l.toArray[k]!.2] := by
  rw [List.take_succ_eq_append_getElem hk, List.map_append]
  simp [hk]
def BtOut (w : World) (l : List Int) (e : Ending) (w' : World) : Prop := ∃ v, e = .returned v ∧ Kd.R (Kd.int .i64) 3 w' w.heap.size (fun _ => True) v l ∧ Below w.heap.size w w'
set_option maxRecDepth 100000 in
set_option maxHeartbeats 2000000 in
theorem between_of (x : Option Addr) (low high : Int) (sub : List En) (w : World) (hlen : sub.length ≤ 1073741824) (CC : Calls Try.prog 24 #[.pointer x, .int .i64 low, .int .i64 high] w (POut w sub)) :
    Calls Try.prog 11 #[.pointer x, .int .i64 low, .int .i64 high] w (BtOut w (unionL (sub.map (·.2)))) := by
  go_enter Try.func11, Try.ntmps11
  go_wp2_with (go_at_call 24; refine CC.mono ?_; rintro e w1 ⟨A', c', rfl, hc', hr, hB⟩)
  have HR := Lib.hid hr
  have HB := Lib.hid hB
  clear hr hB CC
  go_loopw [7, 15] (fun v i wr => ∃ k : Nat, k ≤ sub.length ∧ i = .int .i64 k ∧ Kd.R (Kd.int .i64) 3 wr w1.heap.size (fun _ => True) v ((sub.take k).map (·.2)) ∧ Below w1.heap.size w1 wr) (fun _ i _ => sub.length - (intOf i).toNat)
  case atStart => exact ⟨0, by omega, rfl, Kd.R_nil _ _ _ _ _, Below.refl _ _⟩
  case round =>
    obtain ⟨k, hk, rfl, hv, hb⟩ := hrel
    by_cases hlt : k < sub.length
    · have hlt' : decide ((k : Int) < (sub.length : Int)) = true := decide_eq_true (by omega)
      obtain ⟨b, off, rfl, hcs⟩ := (HR.out.below hb).cells (by omega)
      obtain ⟨c0, c1⟩ := hcs k hlt
      have hst := snd_take sub k hlt
      have HST := Lib.hid hst
      have hl9 : ((sub.take k).map (·.2)).length = k := by simp; omega
      have HL9 := Lib.hid hl9
      clear hcs hst hl9
      generalize sub.toArray[k]!.1 = y1 at *
      generalize sub.toArray[k]!.2 = y2 at *
      generalize (sub.take k).map (·.2) = pre at *
      have HV := Lib.hid hv
      have HBB := Lib.hid hb
      clear hv hb
      have q1 : ((k : Int) < (sub.length : Int)) = True := eq_true (by omega)
      have q2 : (k < sub.length) = True := eq_true hlt
      go_wp2_with ((with_reducible refine gate_builtin (b := .append) (xs := #[.tmp 19, .tmp 22]) rfl ?_); at_builtin; (refine Kd.R_append (Kd.int .i64) (w0 := w1) w1.heap.size rfl (.tmp 19) (.tmp 22) 28 3 (.int .i64 0) 8 rfl Try.underlying28 infoI rfl (by decide) (by decide) _ pre y2 [.int .i64 y2] (fun _ => True) (fun _ => False) rfl (by rw [World.size_alloc]; rfl) rfl (fun _ h => h.elim) (fun _ _ => trivial) (Kd.R_alloc HV.out _) (HBB.out.alloc HBB.out.size _) ?e1 ?e2 ?_); (case e1 => have := HBB.out.size; simp; omega); (case e2 => rw [HL9.out]; omega); intro v2 w2 hR2 hb2 hg2 hat2)
      exact ⟨⟨k + 1, by omega, by go_num, by rw [HST.out]; exact hR2, hb2⟩, by simp only [intOf]; omega⟩
    · obtain rfl : k = sub.length := by omega
      have hlt' : decide ((sub.length : Int) < (sub.length : Int)) = false := decide_eq_false (by omega)
      rw [List.take_length] at hv
      obtain ⟨A9, c9, rfl, hc9, hC⟩ := Kd.R_reads hv
      have CU := ids_Union.calls A9 c9 (sub.map (·.2)) none 0 [] (unionL (sub.map (·.2))) wr hC hc9 (Kd.C_nil _ _) (Nat.le_refl _) (by unfold ids_Union.f ids_some.f unionL; rw [if_pos (by simp; omega)]; rfl)
      have HBB := Lib.hid hb
      simp only [List.length_nil, List.length_map] at CU
      clear hv hb hC hk hlt hc9
      go_wp2_with (go_at_call 25; refine CU.mono ?_; rintro e w3 ⟨v3, rfl, hR3, hB3⟩)
      go_ret
      exact ⟨v3, rfl, Kd.R_lower hR3 (Nat.le_trans HB.out.size HBB.out.size), (HB.out.trans (HBB.out.mono HB.out.size)).trans (hB3.mono (Nat.le_trans HB.out.size HBB.out.size))⟩
end Go.Proofs.Ytdbdkcmbenokbaa.G

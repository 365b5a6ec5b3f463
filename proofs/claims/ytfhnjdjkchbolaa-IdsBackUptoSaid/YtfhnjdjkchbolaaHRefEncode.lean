/- lodestarref08.Encode where the list may be: the bytes. -/
import Derived.Test.YtfhnjdjkchbolaaHEncode
namespace Go.Proofs.Ytfhnjdjkchbolaa.H
open Go.RowKit Go.Proofs.YtfhnjdjkchbolaaW.PrintWords
set_option linter.unusedVariables false

set_option maxRecDepth 100000 in
set_option maxHeartbeats 4000000 in
theorem refenc_calls (A0 : Option Addr) (c0 : Nat) (l0 : List Int) (r1 : ByteArray) (w : World) (hr0 : Kd.C (Kd.int .i64) w A0 l0.length l0) (hc0 : l0.length ≤ c0) (hids : IsIds l0) (hlen : l0.length ≤ 2147483648) (r2 : Int) (hr1 : r1.size ≤ 8)
    (hC : Calls Try.prog 13 #[.slice A0 l0.length c0] w fun e w' => e = .returned (.int .i64 0) ∧ Drawn0 w w')
    (hF : ∀ W, Calls Try.prog 39 #[.int .u64 (l0.length : Int), .int .i64 4] W fun e w' => e = .returned (.tuple #[.string r1, .int .i64 r2]) ∧ Below W.heap.size W w') :
    Calls Try.prog 27 #[.slice A0 l0.length c0] w fun e w' => e = .returned (.tuple #[.string (strOfNums (nums8 r1 ++ encL 0 l0)), .int .i64 0]) ∧ Below w.heap.size w w' := by
  have Hids := Lib.hid hids
  have HC := Lib.hid hC
  have HF := Lib.hid hF
  have Hr0 := Lib.hid hr0
  clear hids hC hF hr0
  go_enter Try.func27, Try.ntmps27
  go_wp2_with fail
  refine HC.out.mono ?_
  rintro e w1 ⟨rfl, ⟨nd, rfl⟩⟩
  go_wp2_with fail
  refine (HF.out _).mono ?_
  rintro e w1 ⟨rfl, hB1⟩
  have hB1' : Below w.heap.size w w1 := ⟨hB1.os, hB1.tape, hB1.output, hB1.size, hB1.block⟩
  obtain ⟨v, w2, hrun, hrow, hB2⟩ := conv_row8 w1 r1 (by unfold maxLen; omega)
  clear hB1
  go_wp2_with fail
  clear hrun
  have hB02 : Below w.heap.size w w2 := hB1'.trans (hB2.mono hB1'.size)
  obtain ⟨bn, hbn⟩ : ∃ bn, bn = (nums8 r1).length := ⟨_, rfl⟩
  have hbn8 : bn ≤ 8 := by rw [hbn]; simp [nums8]; exact hr1
  have Hbn := Lib.hid hbn
  clear hbn
  have h00 : Row8 w2 w.heap.size v (nums8 r1 ++ encL 0 (l0.take 0)) := by
    simp only [List.take_zero, encL, List.append_nil]
    exact hrow.weaken (by have := hB1'.size; omega)
  clear hrow
  go_loopw [6, 7, 8, 9] (fun b last i n wr => ∃ j : Nat, j ≤ l0.length ∧ i = .int .i64 j ∧ last = .int .i64 (lastOf 0 (l0.take j)) ∧ Row8 wr w.heap.size b (nums8 r1 ++ encL 0 (l0.take j)) ∧ Below w.heap.size w wr) (fun b last i n _ => l0.length - (intOf i).toNat)
  case atStart => exact ⟨0, Nat.zero_le _, rfl, rfl, h00, hB02⟩
  case round =>
    obtain ⟨j, hj, rfl, rfl, hrj, hBj⟩ := hrel
    by_cases hlt : j < l0.length
    · obtain ⟨bb, off, rfl, hc0'⟩ := cells_of_C Hr0.out (by omega)
      have hbb : bb < w.heap.size := World.block_lt_of_cell? w _ (hc0' j hlt)
      have hc : ∀ j, j < l0.length → wr.cell? ⟨bb, off + j, none⟩ = some (.int .i64 (l0.getD j 0)) := fun j hj => (hBj.cell (p := ⟨bb, off + j, none⟩) hbb).trans (hc0' j hj)
      have hst := ids_step Hids.out hlt
      have hcj := hc j hlt
      rw [List.getD_eq_getElem?_getD] at hcj
      obtain ⟨u, hu⟩ : ∃ u, l0[j]?.getD 0 = u := ⟨_, rfl⟩
      obtain ⟨p, hp⟩ : ∃ p, lastOf 0 (l0.take j) = p := ⟨_, rfl⟩
      have hu' : l0[j] = u := by rw [← hu]; simp [hlt]
      rw [hu] at hcj
      have hcw : w.cell? ⟨bb, off + j, none⟩ = some (.int .i64 u) := by rw [hc0' j hlt, List.getD_eq_getElem?_getD, hu]
      rw [hu, hp] at hst
      obtain ⟨hp0, hpu, hum⟩ := hst
      have he : encL 0 (l0.take (j + 1)) = encL 0 (l0.take j) ++ enc7 (u - p).toNat := by
        rw [List.take_succ_eq_append_getElem hlt, encL_snoc, hp, hu']
      have hl1 : lastOf 0 (l0.take (j + 1)) = u := by
        rw [List.take_succ_eq_append_getElem hlt, lastOf, List.getLastD_concat, hu']
      rw [hp]
      have hel := encL_le Hids.out (j + 1) (by omega)
      rw [he, List.length_append] at hel
      obtain ⟨pre, hpre⟩ : ∃ pre, pre = nums8 r1 ++ encL 0 (l0.take j) := ⟨_, rfl⟩
      have hpl : pre.length + (enc7 (u - p).toNat).length ≤ 35184372088840 := by rw [hpre, List.length_append, ← Hbn.out]; omega
      rw [← hpre] at hrj
      have He := Lib.hid he
      have Hl1 := Lib.hid hl1
      have Hpre := Lib.hid hpre
      have Hpl := Lib.hid hpl
      clear he hl1 hpre hpl hel hu hu' hp hc hc0'
      go_wp2
      go_loopw [6, 9] (fun b n wr2 => ∃ (m : Nat) (acc : List Int), n = .int .i64 m ∧ m ≤ 4503599627370496 ∧ Row8 wr2 w.heap.size b (pre ++ acc) ∧ Hid (acc ++ enc7 m = enc7 (u - p).toNat) ∧ Below w.heap.size w wr2) (fun b n _ => (intOf n).toNat)
      case atStart => exact ⟨(u - p).toNat, [], by go_num, by omega, by simpa using hrj, Lib.hid (by simp), hBj⟩
      case round =>
        obtain ⟨m, acc, rfl, hm, hrow, Hacc, hBm⟩ := hrel
        by_cases h128 : m < 128
        · have hf : acc ++ [(m : Int)] = enc7 (u - p).toNat := by rw [← Hacc.out, enc7_small h128]
          have Hf := Lib.hid hf
          have hal : pre.length + acc.length + 1 ≤ 35184372088840 := by have := Hpl.out; rw [← hf, List.length_append] at this; simp at this; omega
          clear hf
          go_wp2_with (at_builtin; go_must (refine append_row8 (w0 := w) w.heap.size rfl (.tmp 50) (.tmp 53) rfl _ (pre ++ acc) (m : Int) rfl rfl hrow hBm hBm.size (by rw [List.length_append]; omega) ?_); intro v1 w3 hr3 hb3; have hcell3 : w3.cell? ⟨bb, off + j, none⟩ = some (.int .i64 u) := (hb3.cell (p := ⟨bb, off + j, none⟩) hbb).trans hcw)
          go_roundw
          case rel => exact ⟨j + 1, by omega, by go_num, by rw [Hl1.out], by rw [He.out, ← List.append_assoc, ← Hpre.out, ← Hf.out, ← List.append_assoc]; exact hr3, hb3⟩
          case measure => simp [intOf]; omega
        · have hf : (acc ++ [128 + ((m % 128 : Nat) : Int)]) ++ enc7 (m / 128) = enc7 (u - p).toNat := by rw [← Hacc.out, enc7_great h128, Int.add_comm]; simp
          have Hf := Lib.hid hf
          have hal : pre.length + acc.length + 1 ≤ 35184372088840 := by have := Hpl.out; rw [← hf, List.length_append, List.length_append] at this; simp at this; omega
          clear hf
          go_wp2_with (at_builtin; go_must (refine append_row8 (w0 := w) w.heap.size rfl (.tmp 41) (.tmp 46) rfl _ (pre ++ acc) (128 + ((m % 128 : Nat) : Int)) rfl rfl hrow hBm hBm.size (by rw [List.length_append]; omega) ?_); intro v1 w3 hr3 hb3)
          go_roundw
          case rel => exact ⟨m / 128, acc ++ [128 + ((m % 128 : Nat) : Int)], by go_num, by omega, by rw [← List.append_assoc]; exact hr3, Hf, hb3⟩
          case measure => simp [intOf]; omega
    · have hje : j = l0.length := by omega
      have hall : nums8 r1 ++ encL 0 (l0.take j) = nums8 r1 ++ encL 0 l0 := by rw [hje, List.take_length]
      rw [hall] at hrj
      obtain ⟨out, hout⟩ : ∃ out, nums8 r1 ++ encL 0 l0 = out := ⟨_, rfl⟩
      rw [hout] at hrj
      have hcv := string_row8 hrj
      have Hout := Lib.hid hout
      clear hout
      have Hje := Lib.hid hje
      clear hje hall
      clear hrj
      go_wp2
      go_ret2
      exact ⟨by rw [Hout.out]; rfl, hBj⟩
end Go.Proofs.Ytfhnjdjkchbolaa.H

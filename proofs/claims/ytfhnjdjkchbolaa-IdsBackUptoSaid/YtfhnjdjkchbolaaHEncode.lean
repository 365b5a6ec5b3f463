/- lodestar/ids.Encode where the list may be and its length fits: the bytes. -/
import Derived.Test.YtfhnjdjkchbolaaHRow8
import Derived.WalkKit
import Derived.OwnWalk
import Derived.LoopTactic
import Derived.Lib.Hide
import Derived.Deep.DeepMust
import Derived.Outline
namespace Go.Proofs.Ytfhnjdjkchbolaa.H
open Go.RowKit Go.Proofs.YtfhnjdjkchbolaaW.PrintWords
set_option linter.unusedVariables false

/-- A number as small bytes. -/
def enc7 (n : Nat) : List Int := if n < 128 then [(n : Int)] else (((n % 128 : Nat) : Int) + 128) :: enc7 (n / 128)
termination_by n
/-- What each is above the one ahead, as small bytes. -/
def encL (last : Int) : List Int → List Int
  | [] => []
  | id :: r => enc7 (id - last).toNat ++ encL id r
def lastOf (last : Int) (l : List Int) : Int := l.getLastD last
theorem encL_snoc (l : List Int) (last x : Int) : encL last (l ++ [x]) = encL last l ++ enc7 (x - lastOf last l).toNat := by
  induction l generalizing last with
  | nil => simp [encL, lastOf]
  | cons a r ih =>
    have : lastOf a r = lastOf last (a :: r) := by
      unfold lastOf
      cases r <;> rfl
    rw [List.cons_append, encL, ih, encL, List.append_assoc, this]
def nums8 (s : ByteArray) : List Int := s.data.toList.map fun b => (b.toNat : Int)
theorem enc7_small {n : Nat} (h : n < 128) : enc7 n = [(n : Int)] := by rw [enc7, if_pos h]
theorem enc7_great {n : Nat} (h : ¬ n < 128) : enc7 n = (((n % 128 : Nat) : Int) + 128) :: enc7 (n / 128) := by rw [enc7, if_neg h]
theorem enc7_le (n : Nat) (k : Nat) (h : n < 128 ^ (k + 1)) : (enc7 n).length ≤ k + 1 := by
  induction k generalizing n with
  | zero => rw [enc7_small (by simpa using h)]; simp
  | succ k ih =>
    by_cases hn : n < 128
    · rw [enc7_small hn]; simp
    · rw [enc7_great hn, List.length_cons]
      have := ih (n / 128) (by rw [Nat.div_lt_iff_lt_mul (by decide)]; rw [Nat.pow_succ] at h; exact h)
      omega
/-- A list of ids. -/
def IsIds (l : List Int) : Prop := l.Pairwise (· < ·) ∧ ∀ x ∈ l, 1 ≤ x ∧ x ≤ 4503599627370496
instance (l : List Int) : Decidable (IsIds l) := by unfold IsIds; infer_instance

theorem ids_step {l : List Int} (h : IsIds l) {j : Nat} (hj : j < l.length) : 0 ≤ lastOf 0 (l.take j) ∧ lastOf 0 (l.take j) < l[j]?.getD 0 ∧ l[j]?.getD 0 ≤ 4503599627370496 := by
  have hx := h.2 l[j] (List.getElem_mem hj)
  have e : l[j]?.getD 0 = l[j] := by simp [hj]
  rw [e]
  by_cases h0 : j = 0
  · subst h0; simp [lastOf]; omega
  · obtain ⟨m, rfl⟩ : ∃ m, j = m + 1 := ⟨j - 1, by omega⟩
    have e2 : lastOf 0 (l.take (m + 1)) = l[m] := by
      rw [List.take_succ_eq_append_getElem (by omega), lastOf, List.getLastD_concat]
    have := List.pairwise_iff_getElem.1 h.1 m (m + 1) (by omega) hj (by omega)
    have hm := h.2 l[m] (List.getElem_mem (by omega))
    rw [e2]; omega

theorem encL_le {l : List Int} (h : IsIds l) : ∀ j, j ≤ l.length → (encL 0 (l.take j)).length ≤ 8 * j := by
  intro j
  induction j with
  | zero => intro _; simp [encL]
  | succ j ih =>
    intro hj
    rw [List.take_succ_eq_append_getElem (by omega), encL_snoc, List.length_append]
    have := ids_step h (j := j) (by omega)
    have e : l[j]?.getD 0 = l[j] := by simp [show j < l.length by omega]
    rw [e] at this
    have := enc7_le (l[j] - lastOf 0 (l.take j)).toNat 7 (by rw [show (128 : Nat) ^ (7 + 1) = 72057594037927936 from rfl]; omega)
    have := ih (by omega)
    omega

set_option maxRecDepth 100000 in
set_option maxHeartbeats 4000000 in
theorem enc_calls (A0 : Option Addr) (c0 : Nat) (l0 : List Int) (r1 : ByteArray) (w : World) (hr0 : Kd.C (Kd.int .i64) w A0 l0.length l0) (hc0 : l0.length ≤ c0) (hids : IsIds l0) (hlen : l0.length ≤ 4398046511104) (hr1 : r1.size ≤ 8)
    (hC : Calls Try.prog 12 #[.slice A0 l0.length c0] w fun e w' => e = .returned (.int .i64 0) ∧ Drawn0 w w')
    (hF : ∀ W, Calls Try.prog 38 #[.int .u64 (l0.length : Int), .int .i64 4] W fun e w' => e = .returned (.tuple #[.string r1, .int .i64 0]) ∧ Below W.heap.size W w') :
    Calls Try.prog 26 #[.slice A0 l0.length c0] w fun e w' => e = .returned (.tuple #[.string (strOfNums (nums8 r1 ++ encL 0 l0)), .int .i64 0]) ∧ Below w.heap.size w w' := by
  have Hids := Lib.hid hids
  have HC := Lib.hid hC
  have HF := Lib.hid hF
  have Hr0 := Lib.hid hr0
  clear hids hC hF hr0
  go_enter Try.func26, Try.ntmps26
  go_wp2_with fail
  refine HC.out.mono ?_
  rintro e w1 ⟨rfl, ⟨nd, rfl⟩⟩
  go_wp2_with fail
  refine (HF.out _).mono ?_
  rintro e w1 ⟨rfl, hB1⟩
  have hB1' : Below w.heap.size w w1 := ⟨hB1.os, hB1.tape, hB1.output, hB1.size, hB1.block⟩
  obtain ⟨v, w2, hrun, hrow, hB2⟩ := conv_row8 w1 r1 (by unfold maxLen; omega)
  clear hB1
  go_wp2_with fail
  clear hrun
  have hB02 : Below w.heap.size w w2 := hB1'.trans (hB2.mono hB1'.size)
  obtain ⟨bn, hbn⟩ : ∃ bn, bn = (nums8 r1).length := ⟨_, rfl⟩
  have hbn8 : bn ≤ 8 := by rw [hbn]; simp [nums8]; exact hr1
  have Hbn := Lib.hid hbn
  clear hbn
  have h00 : Row8 w2 w.heap.size v (nums8 r1 ++ encL 0 (l0.take 0)) := by
    simp only [List.take_zero, encL, List.append_nil]
    exact hrow.weaken (by have := hB1'.size; omega)
  clear hrow
  go_loopw [6, 7, 9, 10, 27] (fun b last id n i wr => ∃ j : Nat, j ≤ l0.length ∧ i = .int .i64 j ∧ last = .int .i64 (lastOf 0 (l0.take j)) ∧ Row8 wr w.heap.size b (nums8 r1 ++ encL 0 (l0.take j)) ∧ Below w.heap.size w wr) (fun b last id n i _ => l0.length - (intOf i).toNat)
  case atStart => exact ⟨0, Nat.zero_le _, rfl, rfl, h00, hB02⟩
  case round =>
    obtain ⟨j, hj, rfl, rfl, hrj, hBj⟩ := hrel
    by_cases hlt : j < l0.length
    · obtain ⟨bb, off, rfl, hc⟩ := cells_of_C (Kd.C_below Hr0.out hBj) (by omega)
      have hst := ids_step Hids.out hlt
      have hcj := hc j hlt
      rw [List.getD_eq_getElem?_getD] at hcj
      obtain ⟨u, hu⟩ : ∃ u, l0[j]?.getD 0 = u := ⟨_, rfl⟩
      obtain ⟨p, hp⟩ : ∃ p, lastOf 0 (l0.take j) = p := ⟨_, rfl⟩
      have hu' : l0[j] = u := by rw [← hu]; simp [hlt]
      rw [hu] at hcj
      rw [hu, hp] at hst
      obtain ⟨hp0, hpu, hum⟩ := hst
      have he : encL 0 (l0.take (j + 1)) = encL 0 (l0.take j) ++ enc7 (u - p).toNat := by
        rw [List.take_succ_eq_append_getElem hlt, encL_snoc, hp, hu']
      have hl1 : lastOf 0 (l0.take (j + 1)) = u := by
        rw [List.take_succ_eq_append_getElem hlt, lastOf, List.getLastD_concat, hu']
      rw [hp]
      have hel := encL_le Hids.out (j + 1) (by omega)
      rw [he, List.length_append] at hel
      obtain ⟨pre, hpre⟩ : ∃ pre, pre = nums8 r1 ++ encL 0 (l0.take j) := ⟨_, rfl⟩
      have hpl : pre.length + (enc7 (u - p).toNat).length ≤ 35184372088840 := by rw [hpre, List.length_append, ← Hbn.out]; omega
      rw [← hpre] at hrj
      have He := Lib.hid he
      have Hl1 := Lib.hid hl1
      have Hpre := Lib.hid hpre
      have Hpl := Lib.hid hpl
      clear he hl1 hpre hpl hel hu hu' hp hc
      go_wp2
      go_loopw [6, 10] (fun b n wr2 => ∃ (m : Nat) (acc : List Int), n = .int .i64 m ∧ m ≤ 4503599627370496 ∧ Row8 wr2 w.heap.size b (pre ++ acc) ∧ Hid (acc ++ enc7 m = enc7 (u - p).toNat) ∧ Below w.heap.size w wr2) (fun b n _ => (intOf n).toNat)
      case atStart => exact ⟨(u - p).toNat, [], by go_num, by omega, by simpa using hrj, Lib.hid (by simp), hBj⟩
      case round =>
        obtain ⟨m, acc, rfl, hm, hrow, Hacc, hBm⟩ := hrel
        by_cases h128 : m < 128
        · have hf : acc ++ [(m : Int)] = enc7 (u - p).toNat := by rw [← Hacc.out, enc7_small h128]
          have Hf := Lib.hid hf
          have hal : pre.length + acc.length + 1 ≤ 35184372088840 := by have := Hpl.out; rw [← hf, List.length_append] at this; simp at this; omega
          clear hf
          go_wp2_with (at_builtin; go_must (refine append_row8 (w0 := w) w.heap.size rfl (.tmp 46) (.tmp 49) rfl _ (pre ++ acc) (m : Int) rfl rfl hrow hBm hBm.size (by rw [List.length_append]; omega) ?_); intro v1 w3 hr3 hb3)
          go_roundw
          case rel => exact ⟨j + 1, by omega, by go_num, by rw [Hl1.out], by rw [He.out, ← List.append_assoc, ← Hpre.out, ← Hf.out, ← List.append_assoc]; exact hr3, hb3⟩
          case measure => simp [intOf]; omega
        · have hf : (acc ++ [((m % 128 : Nat) : Int) + 128]) ++ enc7 (m / 128) = enc7 (u - p).toNat := by rw [← Hacc.out, enc7_great h128]; simp
          have Hf := Lib.hid hf
          have hal : pre.length + acc.length + 1 ≤ 35184372088840 := by have := Hpl.out; rw [← hf, List.length_append, List.length_append] at this; simp at this; omega
          clear hf
          go_wp2_with (at_builtin; go_must (refine append_row8 (w0 := w) w.heap.size rfl (.tmp 37) (.tmp 42) rfl _ (pre ++ acc) (((m % 128 : Nat) : Int) + 128) rfl rfl hrow hBm hBm.size (by rw [List.length_append]; omega) ?_); intro v1 w3 hr3 hb3)
          go_roundw
          case rel => exact ⟨m / 128, acc ++ [((m % 128 : Nat) : Int) + 128], by go_num, by omega, by rw [← List.append_assoc]; exact hr3, Hf, hb3⟩
          case measure => simp [intOf]; omega
    · have hje : j = l0.length := by omega
      have hall : nums8 r1 ++ encL 0 (l0.take j) = nums8 r1 ++ encL 0 l0 := by rw [hje, List.take_length]
      rw [hall] at hrj
      obtain ⟨out, hout⟩ : ∃ out, nums8 r1 ++ encL 0 l0 = out := ⟨_, rfl⟩
      rw [hout] at hrj
      have hcv := string_row8 hrj
      have Hout := Lib.hid hout
      clear hout
      have Hje := Lib.hid hje
      clear hje hall
      clear hrj
      go_wp2
      go_ret2
      exact ⟨by rw [Hout.out]; rfl, hBj⟩
end Go.Proofs.Ytfhnjdjkchbolaa.H

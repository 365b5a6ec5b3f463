/- num.Mul of two numbers that are not negative: the product, or error 10 where it is no int. -/
import Derived.Test.YtihanpdfnpgnfaaSSorted
import Derived.WalkKit
namespace Go.Proofs.Ytihanpdfnpgnfaa.H
open Go.RowKit Go.Sort Go.Shelf Go.Proofs.YtihanpdfnpgnfaaW.PrintWords
set_option linter.unusedVariables false

def mulS (a b : Int) : Int × Int := if a * b < 9223372036854775808 then (a * b, 0) else (0, 10)
set_option maxHeartbeats 400000 in
theorem size_calls (a : Nat) (h : a < 9223372036854775808) (w : World) : Calls Try.prog 63 #[.int .i64 a] w fun e w' => e = .returned (.int .u64 a) ∧ w' = w := by
  have h0 : decide ((a : Int) < 0) = false := decide_eq_false (by omega)
  have h1 : IntKind.u64.wrap (a : Int) = a := by
    have : IntKind.u64.wrap (a : Int) = (a : Int) % 18446744073709551616 := rfl
    rw [this]; omega
  have H1 := Lib.hid h1
  clear h1
  go_enter Try.func63, Try.ntmps63
  go_wp2
  go_ret
  exact ⟨by first | rfl | (rw [H1.out]; rfl) | (simp [H1.out]), rfl⟩
set_option maxRecDepth 100000 in
set_option maxHeartbeats 2000000 in
theorem mul_nat (a b : Nat) (ha : a < 9223372036854775808) (hb : b < 9223372036854775808) (w : World) :
    Calls Try.prog 39 #[.int .i64 a, .int .i64 b] w fun e w' => e = .returned (.tuple #[.int .i64 (mulS a b).1, .int .i64 (mulS a b).2]) ∧ w' = w := by
  have hm : mulS a b = if a * b < 9223372036854775808 then (((a * b : Nat) : Int), 0) else (0, 10) := by
    unfold mulS
    rw [← Int.natCast_mul]
    by_cases h : a * b < 9223372036854775808
    · rw [if_pos h, if_pos (by omega)]
    · rw [if_neg h, if_neg (by omega)]
  by_cases h0 : a = 0 ∨ b = 0
  · have hz : mulS a b = (0, 0) := by
      rw [hm]
      rcases h0 with rfl | rfl <;> simp
    rw [hz]
    clear hm hz ha hb
    by_cases ha0 : a = 0
    · subst ha0
      go_enter Try.func39, Try.ntmps39
      go_wp2
      go_ret2
      exact ⟨rfl, rfl⟩
    · obtain rfl : b = 0 := by omega
      have t1 : ((a : Int) == 0) = false := beq_eq_false_iff_ne.2 (by omega)
      clear h0 ha0
      go_enter Try.func39, Try.ntmps39
      go_wp2
      go_ret2
      exact ⟨rfl, rfl⟩
  · have t1 : ((a : Int) == 0) = false := beq_eq_false_iff_ne.2 (by omega)
    have t2 : ((b : Int) == 0) = false := beq_eq_false_iff_ne.2 (by omega)
    have t3 : decide ((a : Int) < 0) = false := decide_eq_false (by omega)
    have t4 : decide ((b : Int) < 0) = false := decide_eq_false (by omega)
    have CM := Try.bits_Mul64 a b (by omega) (by omega)
    have CA := fun w => size_calls a ha w
    have CB := fun w => size_calls b hb w
    clear h0 ha hb
    generalize hP : a * b = P at hm CM
    clear hP
    obtain ⟨hi, hhi⟩ : ∃ hi, P / 18446744073709551616 = hi := ⟨_, rfl⟩
    obtain ⟨lo, hlo⟩ : ∃ lo, P % 18446744073709551616 = lo := ⟨_, rfl⟩
    rw [hhi, hlo] at CM
    by_cases c1 : hi = 0
    · obtain rfl : P = lo := by omega
      have t5 : ((hi : Int) != 0) = false := by rw [c1]; rfl
      by_cases c2 : P < 9223372036854775808
      · rw [if_pos c2] at hm
        have t6 : decide ((9223372036854775808 : Int) < (P : Int)) = false := decide_eq_false (by omega)
        have t7 : ((P : Int) == 9223372036854775808) = false := beq_eq_false_iff_ne.2 (by omega)
        have t8 : wrap64 (P : Int) = P := by unfold wrap64; omega
        have T8 := Lib.hid t8
        rw [hm]
        clear hm hhi hlo c1 c2 t8
        go_enter Try.func39, Try.ntmps39
        go_wp2_with fail
        refine (CA _).mono ?_
        rintro e w' ⟨rfl, rfl⟩
        go_wp2_with fail
        refine (CB _).mono ?_
        rintro e w' ⟨rfl, rfl⟩
        go_wp2_with fail
        refine (CM _).mono ?_
        rintro e w' ⟨rfl, rfl⟩
        go_wp2_with fail
        go_ret2
        exact ⟨by first | rfl | (simp [T8.out]; done), rfl⟩
      · rw [if_neg c2] at hm
        rw [hm]
        clear hm hhi hlo c1
        by_cases c3 : P = 9223372036854775808
        · have t6 : decide ((9223372036854775808 : Int) < (P : Int)) = false := decide_eq_false (by omega)
          have t7 : ((P : Int) == 9223372036854775808) = true := beq_iff_eq.2 (by omega)
          clear c2 c3
          go_enter Try.func39, Try.ntmps39
          go_wp2_with fail
          refine (CA _).mono ?_
          rintro e w' ⟨rfl, rfl⟩
          go_wp2_with fail
          refine (CB _).mono ?_
          rintro e w' ⟨rfl, rfl⟩
          go_wp2_with fail
          refine (CM _).mono ?_
          rintro e w' ⟨rfl, rfl⟩
          go_wp2_with fail
          go_ret2
          exact ⟨rfl, rfl⟩
        · have t6 : decide ((9223372036854775808 : Int) < (P : Int)) = true := decide_eq_true (by omega)
          clear c2 c3
          go_enter Try.func39, Try.ntmps39
          go_wp2_with fail
          refine (CA _).mono ?_
          rintro e w' ⟨rfl, rfl⟩
          go_wp2_with fail
          refine (CB _).mono ?_
          rintro e w' ⟨rfl, rfl⟩
          go_wp2_with fail
          refine (CM _).mono ?_
          rintro e w' ⟨rfl, rfl⟩
          go_wp2_with fail
          go_ret2
          exact ⟨rfl, rfl⟩
    · have t5 : ((hi : Int) != 0) = true := by rw [bne_iff_ne]; omega
      rw [if_neg (by omega)] at hm
      rw [hm]
      clear hm hhi hlo c1
      go_enter Try.func39, Try.ntmps39
      go_wp2_with fail
      refine (CA _).mono ?_
      rintro e w' ⟨rfl, rfl⟩
      go_wp2_with fail
      refine (CB _).mono ?_
      rintro e w' ⟨rfl, rfl⟩
      go_wp2_with fail
      refine (CM _).mono ?_
      rintro e w' ⟨rfl, rfl⟩
      go_wp2_with fail
      go_ret2
      exact ⟨rfl, rfl⟩
theorem mul_calls (a b : Int) (ha0 : 0 ≤ a) (ha : a < 9223372036854775808) (hb0 : 0 ≤ b) (hb : b < 9223372036854775808) (w : World) :
    Calls Try.prog 39 #[.int .i64 a, .int .i64 b] w fun e w' => e = .returned (.tuple #[.int .i64 (mulS a b).1, .int .i64 (mulS a b).2]) ∧ w' = w := by
  obtain ⟨n, rfl⟩ := Int.eq_ofNat_of_zero_le ha0
  obtain ⟨m, rfl⟩ := Int.eq_ofNat_of_zero_le hb0
  exact mul_nat n m (by omega) (by omega) w
end Go.Proofs.Ytihanpdfnpgnfaa.H

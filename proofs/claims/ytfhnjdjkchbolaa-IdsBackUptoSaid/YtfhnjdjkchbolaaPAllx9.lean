-- Printed by hp.py (a program of this repo) with the kit's print: whole numbers, lists; the parts marked HAND are typed by hand.
import Derived.Test.YtfhnjdjkchbolaaPAllx0
import Derived.Test.YtfhnjdjkchbolaaPAllx1
import Derived.Test.YtfhnjdjkchbolaaPAllx8
import Derived.Test.YtfhnjdjkchbolaaHEncode
namespace Go.Proofs.Ytfhnjdjkchbolaa.PAll
open Go.RowKit Go.Proofs.YtfhnjdjkchbolaaW.PrintWords Go.Proofs.YtfhnjdjkchbolaaW.PrintLast Go.Proofs.YtfhnjdjkchbolaaW.PrintMore
attribute [local go_sem] max2_int min2_int max_two min_two max_three min_three max_four min_four   -- for this text's walks alone
set_option linter.unusedVariables false
set_option linter.unusedSimpArgs false

-- HAND: typed by hand
/-! ### ids_Encode: function 26 -/
/-- A list as bytes: how many, then of each what it is above the one ahead, as small bytes. -/
def ids_Encode.f (k : Nat) (l0 : List Int) : Option (ByteArray × Int) := (ids_Check.f k l0).bind fun c => (if c = 0 then (if H.IsIds l0 then (if l0.length ≤ 4398046511104 then ((num_Fix.f k (l0.length : Int) 4).bind fun r => (if r.2 = 0 then (if r.1.size ≤ 8 then (some (strOfNums (H.nums8 r.1 ++ H.encL 0 l0), 0)) else none) else (some ((⟨#[]⟩ : ByteArray), 80)))) else none) else none) else (some ((⟨#[]⟩ : ByteArray), 80)))
theorem ids_Encode.mono : ∀ a0 k, LeO (ids_Encode.f k a0) (ids_Encode.f (k + 1) a0) := by
  intro a0 k
  unfold ids_Encode.f
  repeat' first
      | (with_reducible exact ids_Check.mono _ _)
      | (with_reducible exact num_Fix.mono _ _ _)
      | (with_reducible exact LeO.refl _)
      | (with_reducible exact LeO.none _)
      | (with_reducible refine LeO.ite ?_ ?_)
      | (with_reducible refine LeO.bind ?_ (fun _ => ?_))
set_option maxHeartbeats 2000000 in
theorem ids_Encode.calls (k : Nat) (A0 : Option Addr) (c0 : Nat) (l0 : List Int) (r1 : ByteArray) (r2 : Int) (w : World) (hr0 : Kd.C (Kd.int .i64) w A0 l0.length l0) (hc0 : l0.length ≤ c0) (h : ids_Encode.f k l0 = some (r1, r2)) :
    Calls Try.prog 26 #[.slice A0 l0.length c0] w fun e w' => e = .returned (.tuple #[.string r1, .int .i64 r2]) ∧ Below w.heap.size w w' := by
  unfold ids_Encode.f at h
  obtain ⟨c, hc, h⟩ := Option.bind_eq_some_iff.1 h
  have C1 := ids_Check.calls k A0 c0 l0 c w hr0 hc0 hc
  by_cases e0 : c = 0
  · subst e0
    rw [if_pos rfl] at h
    split at h
    · next hi =>
      split at h
      · next hl =>
        obtain ⟨⟨t1, t2⟩, hf, h⟩ := Option.bind_eq_some_iff.1 h
        have C2 := fun W => num_Fix.calls k (l0.length : Int) 4 t1 t2 W hf
        by_cases e1 : t2 = 0
        · subst e1
          rw [if_pos rfl] at h
          split at h
          · next h8 =>
            simp only [Option.some.injEq, Prod.mk.injEq] at h
            obtain ⟨rfl, rfl⟩ := h
            exact H.enc_calls A0 c0 l0 t1 w hr0 hc0 hi hl h8 C1 C2
          · exact absurd h (by simp)
        · rw [if_neg e1] at h
          simp only [Option.some.injEq, Prod.mk.injEq] at h
          obtain ⟨rfl, rfl⟩ := h
          have e1b : (t2 != 0) = true := by rw [bne_iff_ne]; exact e1
          have HC1 := Aside0.mk C1
          have HC2 := Aside0.mk C2
          clear C1 C2 hr0 hi hf hc e1
          go_enter Try.func26, Try.ntmps26
          go_wp2_with fail
          refine HC1.out.mono ?_
          rintro e w1 ⟨rfl, ⟨nd, rfl⟩⟩
          go_wp2_with fail
          refine (HC2.out _).mono ?_
          rintro e w1 ⟨rfl, hB1⟩
          have hB1' : Below w.heap.size w w1 := ⟨hB1.os, hB1.tape, hB1.output, hB1.size, hB1.block⟩
          clear hB1
          go_wp2_with fail
          go_ret2
          exact ⟨rfl, hB1'⟩
      · exact absurd h (by simp)
    · exact absurd h (by simp)
  · rw [if_neg e0] at h
    simp only [Option.some.injEq, Prod.mk.injEq] at h
    obtain ⟨rfl, rfl⟩ := h
    have e1b : (c != 0) = true := by rw [bne_iff_ne]; exact e0
    have HC1 := Aside0.mk C1
    clear C1 hr0 hc e0
    go_enter Try.func26, Try.ntmps26
    go_wp2_with fail
    refine HC1.out.mono ?_
    rintro e w1 ⟨rfl, ⟨nd, rfl⟩⟩
    go_wp2_with fail
    go_ret2
    exact ⟨rfl, ⟨rfl, rfl, rfl, Nat.le_refl _, fun _ _ => rfl⟩⟩

end Go.Proofs.Ytfhnjdjkchbolaa.PAll

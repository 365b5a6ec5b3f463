/- The walk of the law WordsNobody: an index that is none, and the calls at the head. -/
import Derived.Test.YtcpaejdipohndaaVB
import Derived.Test.YtcpaejdipohndaaRKinds
namespace Go.Proofs.Ytcpaejdipohndaa.H
open Go.RowKit Go.Lib Go.Proofs.YtcpaejdipohndaaW.PrintWords Go.Proofs.Ytcpaejdipohndaa.PAll Go.Proofs.Ytcpaejdipohndaa.V Go.WideShapes Go.ChangeShapes
set_option linter.unusedVariables false
set_option maxRecDepth 100000 in
/-- A value that came in, of whatever bulk. -/
theorem arg_va {H : Type} {enc : TypeId × Value → H} {w : World} {sp : Nat → Bool} {held : Bool} {base b0 : Nat} {v : Value} {x : DataW H} {p : List MemPlace}
    (hv : Value.okWide Try.prog w .any b0 24 v) (h : DataW.Trod enc Try.prog w base sp held 24 v x p) : ∃ y : Va, v = .agg #[.int .i64 y.f0, .int .i64 y.f1, .string y.f2] := by
  have ht := Try.underlying24
  obtain ⟨cs, rfl, hsz⟩ := okWide_struct ht hv
  obtain ⟨fuel, hf⟩ := h
  obtain ⟨xs, n, _, _, hl, hlen, hfs⟩ := DataW.trod_struct ht hf
  have h0 := hfs 0 _ rfl
  have h1 := hfs 1 _ rfl
  have h2 := hfs 2 _ rfl
  match xs, hlen with
  | [x0, x1, x2], _ =>
    obtain ⟨n0, e0, _, _⟩ := DataW.trod_int Try.underlying3 h0
    obtain ⟨n1, e1, _, _⟩ := DataW.trod_int Try.underlying3 h1
    obtain ⟨s2, e2, _, _⟩ := DataW.trod_string Try.underlying9 h2
    refine ⟨⟨n0, n1, s2⟩, ?_⟩
    have c1 : Try.prog.cellsOf 3 = 1 := by kernel_rfl
    have c2 : Try.prog.cellsOf 9 = 1 := by kernel_rfl
    have c3 : Try.prog.cellsOf 24 = 3 := by kernel_rfl
    rw [c3] at hsz
    obtain ⟨l⟩ := cs
    match l, hsz with
    | [a, b, c], _ =>
      have e0' : List.take (Try.prog.cellsOf 3) ([a, b, c].drop 0) = [.int .i64 n0] := e0
      have e1' : List.take (Try.prog.cellsOf 3) ([a, b, c].drop 1) = [.int .i64 n1] := e1
      have e2' : List.take (Try.prog.cellsOf 9) ([a, b, c].drop 2) = [.string s2] := e2
      rw [c1] at e0' e1'
      rw [c2] at e2'
      simp at e0' e1' e2'
      rw [e0', e1', e2']
set_option maxRecDepth 100000 in
set_option maxHeartbeats 2000000 in
theorem wordsNobody_walk (y : Va) (W : World) : Calls Try.prog 4 #[.agg #[.int .i64 y.f0, .int .i64 y.f1, .string y.f2]] W fun e W' => e = .returned (.bool true) ∧ Below W.heap.size W W' := by
  have hb1 : Below W.heap.size W (W.alloc (.cells #[.int .i64 y.f0, .int .i64 y.f1, .string y.f2] 24)) := (Below.refl _ W).alloc (Nat.le_refl _) _
  have hV := World.alloc_heap_new W (.cells #[.int .i64 y.f0, .int .i64 y.f1, .string y.f2] 24)
  have k0 := cell_of_blk hV (j := 0) rfl
  have k1 := cell_of_blk hV (j := 1) rfl
  have k2 := cell_of_blk hV (j := 2) rfl
  clear hV
  go_enter Try.func4, Try.ntmps4
  go_wp2_with fail
  generalize W.alloc (.cells #[.int .i64 y.f0, .int .i64 y.f1, .string y.f2] 24) = W1 at *
  refine (find_none y W1).mono ?_
  rintro e w2 ⟨rfl, hB2⟩
  have m1 : True := trivial
  go_wp2_with (clear m1; go_at_call 13; refine (any_none w2).mono ?_; rintro e w3 ⟨rfl, rfl⟩)
  have m1 : True := trivial
  go_wp2_with (clear m1; go_at_call 16; refine (values_none w3).mono ?_; rintro e w4 ⟨rfl, rfl⟩)
  have m1 : True := trivial
  go_wp2_with (clear m1; go_at_call 18; refine (len_none w4).mono ?_; rintro e w5 ⟨rfl, rfl⟩)
  have m1 : True := trivial
  go_wp2_with (clear m1; go_at_call 19; refine (sure_calls w5).mono ?_; rintro e w6 ⟨rfl, hB6⟩)
  go_ret
  exact ⟨rfl, hb1.trans ((hB2.trans (hB6.mono hB2.size)).mono hb1.size)⟩
end Go.Proofs.Ytcpaejdipohndaa.H

/- Words: the reference's comparison of values is the program's. -/
import Derived.Test.YtcpaejdipohndaaVA
namespace Go.Proofs.Ytcpaejdipohndaa.V
open Go.RowKit Go.Sort Go.Shelf Go.Lib Go.Maps Go.Proofs.YtcpaejdipohndaaW.PrintWords Go.Proofs.Ytcpaejdipohndaa.PAll
set_option linter.unusedVariables false
set_option maxRecDepth 100000 in
set_option maxHeartbeats 2000000 in
theorem cmp5_calls (x y : Va) (w : World) : Calls Try.prog 20 #[.agg #[.int .i64 x.f0, .int .i64 x.f1, .string x.f2], .agg #[.int .i64 y.f0, .int .i64 y.f1, .string y.f2]] w fun e w' => e = .returned (.int .i64 (cmpV x y)) ∧ Below w.heap.size w w' := by
  obtain ⟨x0, x1, x2⟩ := x
  obtain ⟨y0, y1, y2⟩ := y
  have hb1 : Below w.heap.size w (w.alloc (.cells #[.int .i64 x0, .int .i64 x1, .string x2] 24)) := (Below.refl _ w).alloc (Nat.le_refl _) _
  have hz1 : (w.alloc (.cells #[.int .i64 x0, .int .i64 x1, .string x2] 24)).heap.size = w.heap.size + 1 := by simp
  have hV1 := World.alloc_heap_new w (.cells #[.int .i64 x0, .int .i64 x1, .string x2] 24)
  have hb2 : Below w.heap.size w ((w.alloc (.cells #[.int .i64 x0, .int .i64 x1, .string x2] 24)).alloc (.cells #[.int .i64 y0, .int .i64 y1, .string y2] 24)) := hb1.alloc (by omega) _
  have hV2 : ((w.alloc (.cells #[.int .i64 x0, .int .i64 x1, .string x2] 24)).alloc (.cells #[.int .i64 y0, .int .i64 y1, .string y2] 24)).heap[w.heap.size]? = _ := (((Below.refl _ _).alloc (Nat.le_refl _) _).block _ (by omega)).trans hV1
  have hV3 := World.alloc_heap_new (w.alloc (.cells #[.int .i64 x0, .int .i64 x1, .string x2] 24)) (.cells #[.int .i64 y0, .int .i64 y1, .string y2] 24)
  rw [hz1] at hV3
  have hw : cmpV ⟨x0, x1, x2⟩ ⟨y0, y1, y2⟩ = orI (cmpI x0 y0) (orI (cmpI x1 y1) (cmpS x2 y2)) := rfl
  have HW := Lib.hid hw
  clear hw
  generalize cmpV ⟨x0, x1, x2⟩ ⟨y0, y1, y2⟩ = r at *
  clear hV1 hV2 hV3
  go_enter Try.func20, Try.ntmps20
  go_wp2_with fail
  all_goals
    go_ret
    refine ⟨?_, hb2⟩
    have hr := HW.out
    unfold orI cmpI cmpS at hr
    clear HW hb1 hb2 hz1
    subst hr
    congr 2
    (repeat' split) <;> first | rfl | (exfalso; omega) | (simp_all; done)
end Go.Proofs.Ytcpaejdipohndaa.V

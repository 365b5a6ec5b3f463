/- Ranges: the tests that rowOf and part hand over. -/
import Derived.Test.YtdbdkcmbenokbaaGCmp
import Derived.RangeFuncRecord
import Derived.Shelf.Abstract
import Derived.Deep.DeepCutAuto
namespace Go.Proofs.Ytdbdkcmbenokbaa.G
open Go.RowKit Go.Sort Go.Lib
set_option linter.unusedVariables false

theorem cmpE_zero (x y : Int × Int) : cmpE x y = 0 ↔ x = y := by
  obtain ⟨x1, x2⟩ := x
  obtain ⟨y1, y2⟩ := y
  simp only [cmpE, orI, cmpI, Prod.mk.injEq]
  (repeat' split) <;> omega
set_option maxHeartbeats 2000000 in
/-- Are two entries alike? -/
theorem alike_calls (x y : Int × Int) (B : Nat) (W : World) (hB : W.cell? ⟨B, 0, none⟩ = some (.func (.func 21) #[] #[])) (hlt : B < W.heap.size) :
    Calls Try.prog 30 #[.agg #[.int .i64 x.1, .int .i64 x.2], .agg #[.int .i64 y.1, .int .i64 y.2], .pointer (some ⟨B, 0, none⟩)] W fun e w' => e = .returned (.bool (decide (x = y))) ∧ ∃ q os', w' = grow (W.drewN q) os' := by
  have C := fun W' => ord_calls x y W'
  have hz := cmpE_zero x y
  have hd : decide (x = y) = (cmpE x y == 0) := by
    rw [Bool.eq_iff_iff]; simp [hz]
  rw [hd]
  clear hd hz
  obtain ⟨x1, x2⟩ := x
  obtain ⟨y1, y2⟩ := y
  generalize cmpE (x1, x2) (y1, y2) = r at C ⊢
  dsimp only at C
  have k0 : ((W.alloc (.cells #[.int .i64 x1, .int .i64 x2] 32)).alloc (.cells #[.int .i64 y1, .int .i64 y2] 32)).cell? ⟨B, 0, none⟩ = some (.func (.func 21) #[] #[]) := Lib.cell?_alloc_some _ (Lib.cell?_alloc_some _ hB)
  have k1 : ((W.alloc (.cells #[.int .i64 x1, .int .i64 x2] 32)).alloc (.cells #[.int .i64 y1, .int .i64 y2] 32)).heap[W.heap.size]? = some (.cells #[.int .i64 x1, .int .i64 x2] 32 (0, 0)) := (Below.heap_alloc _ _ _ (by simp)).trans (World.alloc_heap_new W _)
  have k2 := World.alloc_heap_new (W.alloc (.cells #[.int .i64 x1, .int .i64 x2] 32)) (.cells #[.int .i64 y1, .int .i64 y2] 32)
  rw [World.size_alloc] at k2
  have HW2 : Hid (((W.alloc (.cells #[.int .i64 x1, .int .i64 x2] 32)).alloc (.cells #[.int .i64 y1, .int .i64 y2] 32)) = grow W (#[.cells #[.int .i64 x1, .int .i64 x2] 32] ++ #[.cells #[.int .i64 y1, .int .i64 y2] 32])) := Lib.hid (by rw [alloc_eq_grow, alloc_eq_grow, grow_grow])
  go_enter Try.func30, Try.ntmps30
  go_upto_region 1 with (fail)
  generalize ((W.alloc (.cells #[.int .i64 x1, .int .i64 x2] 32)).alloc (.cells #[.int .i64 y1, .int .i64 y2] 32)) = W2 at k0 k1 k2 HW2 ⊢
  have c0 : W2.cell? ⟨W.heap.size, 0, none⟩ = some (.int .i64 x1) := by simp only [World.cell?, k1]; rfl
  have c1 : W2.cell? ⟨W.heap.size, 1, none⟩ = some (.int .i64 x2) := by simp only [World.cell?, k1]; rfl
  have c2 : W2.cell? ⟨W.heap.size + 1, 0, none⟩ = some (.int .i64 y1) := by simp only [World.cell?, k2]; rfl
  have c3 : W2.cell? ⟨W.heap.size + 1, 1, none⟩ = some (.int .i64 y2) := by simp only [World.cell?, k2]; rfl
  clear k1 k2 hB
  have eg : ∀ args w, (callFunc 21 args).run Try.prog w = .ok (.enter 21 args) w := enters_of Try.func21 (by kernel_rfl) rfl
  go_wp2_with (first | (go_at_fn 21; refine (C _).mono ?_; rintro e W1 ⟨rfl, q, os, rfl⟩) | (go_at_call 21; refine (C _).mono ?_; rintro e W1 ⟨rfl, q, os, rfl⟩))
  go_ret
  exact ⟨rfl, q, _, by rw [HW2.out, show ∀ A, (grow W A).drewN q = grow (W.drewN q) A from fun _ => rfl]; exact grow_grow _ _ _⟩
set_option maxHeartbeats 2000000 in
/-- Is an entry's number no less than what lies in the box? -/
theorem geq_calls (x : Int × Int) (B : Nat) (n : Int) (W : World) (hB : W.cell? ⟨B, 0, none⟩ = some (.int .i64 n)) (hlt : B < W.heap.size) :
    Calls Try.prog 33 #[.agg #[.int .i64 x.1, .int .i64 x.2], .pointer (some ⟨B, 0, none⟩)] W fun e w' => e = .returned (.bool (decide (x.1 ≥ n))) ∧ ∃ q os', w' = grow (W.drewN q) os' := by
  obtain ⟨x1, x2⟩ := x
  have hne : B ≠ W.heap.size := by omega
  have k0 : (W.alloc (.cells #[.int .i64 x1, .int .i64 x2] 32)).cell? ⟨B, 0, none⟩ = some (.int .i64 n) := Lib.cell?_alloc_some _ hB
  go_enter Try.func33, Try.ntmps33
  go_wp2
  go_ret
  exact ⟨by first | rfl | simp, 0, _, by rw [alloc_eq_grow]; rfl⟩
set_option maxHeartbeats 2000000 in
/-- Is it greater? -/
theorem gtr_calls (x : Int × Int) (B : Nat) (n : Int) (W : World) (hB : W.cell? ⟨B, 0, none⟩ = some (.int .i64 n)) (hlt : B < W.heap.size) :
    Calls Try.prog 34 #[.agg #[.int .i64 x.1, .int .i64 x.2], .pointer (some ⟨B, 0, none⟩)] W fun e w' => e = .returned (.bool (decide (x.1 > n))) ∧ ∃ q os', w' = grow (W.drewN q) os' := by
  obtain ⟨x1, x2⟩ := x
  have hne : B ≠ W.heap.size := by omega
  have k0 : (W.alloc (.cells #[.int .i64 x1, .int .i64 x2] 32)).cell? ⟨B, 0, none⟩ = some (.int .i64 n) := Lib.cell?_alloc_some _ hB
  go_enter Try.func34, Try.ntmps34
  go_wp2
  go_ret
  exact ⟨by first | rfl | simp, 0, _, by rw [alloc_eq_grow]; rfl⟩
end Go.Proofs.Ytdbdkcmbenokbaa.G

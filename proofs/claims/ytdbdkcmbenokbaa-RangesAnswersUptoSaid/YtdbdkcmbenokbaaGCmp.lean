/- Ranges: cmp.Compare and cmp.Or at whole numbers, the comparison of entries by number, then id, and the test whether two are alike. -/
import Derived.Test.YtdbdkcmbenokbaaProg
import Derived.WalkKit
import Derived.ProofKit
import Derived.Deep.QuietTactic
import Derived.BigQuiet
import Derived.StillTailTactics
import Derived.Sort.Grow
import Derived.Lib.Hide
import Derived.Lib.SliceRun
import Derived.Below
import Derived.RangeFuncRecord
namespace Go.Proofs.Ytdbdkcmbenokbaa.G
open Go.RowKit Go.Sort Go.Lib
set_option linter.unusedVariables false

def cmpI (x y : Int) : Int := if x < y then -1 else if x > y then 1 else 0
def orI (x y : Int) : Int := if x = 0 then y else x
/-- An entry: how many, the id. -/
def cmpE (x y : Int × Int) : Int := orI (cmpI x.1 y.1) (cmpI x.2 y.2)
theorem nan_calls (x : Int) (w : World) : Calls Try.prog 31 #[.int .i64 x] w fun e w' => e = .returned (.bool false) ∧ w' = w := by
  go_enter Try.func31, Try.ntmps31
  go_wp2
  go_ret
  exact ⟨by simp, rfl⟩
theorem cmp_calls (x y : Int) (w : World) : Calls Try.prog 23 #[.int .i64 x, .int .i64 y] w fun e w' => e = .returned (.int .i64 (cmpI x y)) ∧ w' = w := by
  go_enter Try.func23, Try.ntmps23
  go_wp2_with (go_at_call 31; refine (nan_calls _ _).mono ?_; rintro e w' ⟨rfl, hw⟩; rw [hw])
  all_goals (go_ret; refine ⟨?_, rfl⟩; unfold cmpI; (repeat' split) <;> first | rfl | (exfalso; omega))
theorem or_calls (b : Nat) (x y : Int) (w : World) (h0 : w.cell? ⟨b, 0, none⟩ = some (.int .i64 x)) (h1 : w.cell? ⟨b, 1, none⟩ = some (.int .i64 y)) :
    Calls Try.prog 22 #[.slice (some ⟨b, 0, none⟩) 2 2] w fun e w' => e = .returned (.int .i64 (orI x y)) ∧ w' = w := by
  go_enter Try.func22, Try.ntmps22
  go_wp2
  go_loopw [8] (fun s wr => ∃ i : Nat, i ≤ 2 ∧ s = .int .i64 i ∧ wr = w ∧ (1 ≤ i → x = 0) ∧ (2 ≤ i → y = 0)) (fun s _ => 2 - (intOf s).toNat)
  case atStart => exact ⟨0, by omega, rfl, rfl, by omega, by omega⟩
  case round =>
    obtain ⟨i, hi, rfl, rfl, hx, hy⟩ := hrel
    match i, hi with
    | 0, _ =>
      by_cases hc : x = 0
      · subst hc
        go_wp2
        exact ⟨⟨1, by simp⟩, by simp [intOf]⟩
      · have hb : (x != 0) = true := bne_iff_ne.mpr hc
        go_wp2
        all_goals (go_ret; exact ⟨by unfold orI; rw [if_neg hc]; rfl, rfl⟩)
    | 1, _ =>
      obtain rfl := hx (by omega)
      by_cases hc : y = 0
      · subst hc
        go_wp2
        exact ⟨⟨2, by simp⟩, by simp [intOf]⟩
      · have hb : (y != 0) = true := bne_iff_ne.mpr hc
        go_wp2
        all_goals (go_ret; exact ⟨by unfold orI; rw [if_pos rfl]; rfl, rfl⟩)
    | 2, _ =>
      obtain rfl := hx (by omega)
      obtain rfl := hy (by omega)
      go_wp2
      go_ret
      exact ⟨rfl, rfl⟩
theorem still_tail {P : Program} {id : Nat} {Q : Exit → Act → World → Prop} {a : Act} {w : World} {l : List Oper} (n : Nat) (hm : P.follows .mixedOrders = true) (hB : Region.lexTailB .any l.toArray n = true)
    (h : wpStill P l.toArray w.drew (fun a' => wpList P l.toArray Q (l.drop n) a' w.drew) (l.take n) a) : (Code.region id l.toArray true).wp P Q a w := wp_region_still_tail n hm hB h
set_option maxHeartbeats 2000000 in
/-- The order of the entries: in whatever world; blocks are laid. -/
theorem ord_calls (x y : Int × Int) (W : World) : Calls Try.prog 21 #[.agg #[.int .i64 x.1, .int .i64 x.2], .agg #[.int .i64 y.1, .int .i64 y.2]] W fun e w' => e = .returned (.int .i64 (cmpE x y)) ∧ ∃ q os', w' = grow (W.drewN q) os' := by
  obtain ⟨x1, x2⟩ := x
  obtain ⟨y1, y2⟩ := y
  have C1 := fun W' => cmp_calls x1 y1 W'
  have C2 := fun W' => cmp_calls x2 y2 W'
  have H1 : Hid (cmpE (x1, x2) (y1, y2) = orI (cmpI x1 y1) (cmpI x2 y2)) := Lib.hid rfl
  generalize cmpE (x1, x2) (y1, y2) = r at H1 ⊢
  generalize cmpI x1 y1 = a at C1 H1
  generalize cmpI x2 y2 = b at C2 H1
  go_enter Try.func21, Try.ntmps21
  go_wp2_with fail
  have k0 : ((W.alloc (.cells #[.int .i64 x1, .int .i64 x2] 32)).alloc (.cells #[.int .i64 y1, .int .i64 y2] 32)).cell? ⟨W.heap.size, 0, none⟩ = some (.int .i64 x1) := by simp
  have k1 : ((W.alloc (.cells #[.int .i64 x1, .int .i64 x2] 32)).alloc (.cells #[.int .i64 y1, .int .i64 y2] 32)).cell? ⟨W.heap.size, 1, none⟩ = some (.int .i64 x2) := by simp
  have k2 : ((W.alloc (.cells #[.int .i64 x1, .int .i64 x2] 32)).alloc (.cells #[.int .i64 y1, .int .i64 y2] 32)).cell? ⟨W.heap.size + 1, 0, none⟩ = some (.int .i64 y1) := by have h := World.alloc_heap_new (W.alloc (.cells #[.int .i64 x1, .int .i64 x2] 32)) (.cells #[.int .i64 y1, .int .i64 y2] 32); rw [World.size_alloc] at h; simp only [World.cell?, h]; rfl
  have k3 : ((W.alloc (.cells #[.int .i64 x1, .int .i64 x2] 32)).alloc (.cells #[.int .i64 y1, .int .i64 y2] 32)).cell? ⟨W.heap.size + 1, 1, none⟩ = some (.int .i64 y2) := by have h := World.alloc_heap_new (W.alloc (.cells #[.int .i64 x1, .int .i64 x2] 32)) (.cells #[.int .i64 y1, .int .i64 y2] 32); rw [World.size_alloc] at h; simp only [World.cell?, h]; rfl
  generalize hW2 : ((W.alloc (.cells #[.int .i64 x1, .int .i64 x2] 32)).alloc (.cells #[.int .i64 y1, .int .i64 y2] 32)) = W2 at k0 k1 k2 k3 ⊢
  have HW2 := Lib.hid hW2
  clear hW2
  refine still_tail 10 (by kernel_rfl) (by kernel_rfl) ?_
  simp only [List.take_succ_cons, List.take_zero, List.drop_succ_cons, List.drop_zero]
  still_step
  still_step
  still_step
  still_step
  still_call (C1 _)
  still_step
  still_step
  still_step
  still_step
  still_call (C2 _)
  refine wpStill_nil ?_
  go_wp2_with (go_at_call 22; refine (or_calls _ a b _ ?o1 ?o2).mono ?_; (case o1 => simp); (case o2 => simp); rintro e W1 ⟨rfl, rfl⟩)
  go_ret
  exact ⟨by rw [H1.out]; rfl, 1, _, by rw [← HW2.out, alloc_eq_grow, alloc_eq_grow, alloc_eq_grow, grow_grow, grow_grow, drew_grow]; rfl⟩
end Go.Proofs.Ytdbdkcmbenokbaa.G

/- Ranges: from and part: where the entries of a range begin and end in the rising row. -/
import Derived.Test.YtdbdkcmbenokbaaGBuild
import Derived.Shelf.SlSorted.Search
namespace Go.Proofs.Ytdbdkcmbenokbaa.G
open Go.RowKit Go.Sort Go.Lib Go.Shelf
set_option linter.unusedVariables false

/-- What a test is good for that a search hands over: in whatever world its box stands. -/
def TestAt (F : Nat) (Bx : Nat) (p : En → Bool) (W : World) : Prop :=
  ∀ W', W.heap.size ≤ W'.heap.size → W'.heap[Bx]? = W.heap[Bx]? → ∀ x : En, Calls Try.prog F #[.agg #[.int .i64 x.1, .int .i64 x.2], .pointer (some ⟨Bx, 0, none⟩)] W' fun e w' => e = .returned (.bool (p x)) ∧ ∃ q os', w' = grow (W'.drewN q) os'
set_option maxRecDepth 100000 in
set_option maxHeartbeats 1000000 in
theorem from1_calls (F Bx Bi Br g cap n i : Nat) (x : En) (pb : Bool) (W : World) (hi : i < n) (hn : n ≤ 1073741824) (eg : ∀ args w, (callFunc F args).run Try.prog w = .ok (.enter F args) w)
    (hc : Calls Try.prog F #[.agg #[.int .i64 x.1, .int .i64 x.2], .pointer (some ⟨Bx, 0, none⟩)] W.drew fun e w' => e = .returned (.bool pb) ∧ ∃ q os', w' = grow (W.drew.drewN q) os')
    (hBi : W.cell? ⟨Bi, 0, none⟩ = some (.func (.func F) #[] #[.pointer (some ⟨Bx, 0, none⟩)])) (hBr : W.cell? ⟨Br, 0, none⟩ = some (.slice (some ⟨g, 0, none⟩) n cap))
    (c0 : W.cell? ⟨g, i * 2, none⟩ = some (.int .i64 x.1)) (c1 : W.cell? ⟨g, i * 2 + 1, none⟩ = some (.int .i64 x.2)) :
    Calls Try.prog 39 #[.int .i64 i, .pointer (some ⟨Bi, 0, none⟩), .pointer (some ⟨Br, 0, none⟩)] W fun e w' => e = .returned (.bool pb) ∧ ∃ q os', w' = grow (W.drewN q) os' := by
  obtain ⟨x1, x2⟩ := x
  dsimp only at hc c0 c1
  have q1 : ((i : Int) < (n : Int)) = True := eq_true (by omega)
  have q2 : (i < n) = True := eq_true hi
  go_enter Try.func39, Try.ntmps39
  go_wp2_with fail
  refine still_tail 6 (by kernel_rfl) (by kernel_rfl) ?_
  simp only [List.take_succ_cons, List.take_zero, List.drop_succ_cons, List.drop_zero]
  still_step
  still_step
  still_step
  still_step
  still_step
  still_step
  refine wpStill_nil ?_
  go_wp2_with (go_at_fn F; refine hc.mono ?_; rintro e W1 ⟨rfl, q, os, rfl⟩)
  go_ret
  exact ⟨rfl, 1 + q, os, by first | rfl | simp⟩

theorem cell_of_blk {W : World} {b j : Nat} {cs : Array Value} {t : TypeId} {v : Value} (h : W.heap[b]? = some (.cells cs t (0, 0))) (hj : cs[j]? = some v) : W.cell? ⟨b, j, none⟩ = some v := by simp only [World.cell?, h]; exact hj
set_option maxHeartbeats 2000000 in
theorem from_calls (F Bx base : Nat) (p : En → Bool) (A : Option Addr) (c : Nat) (fn : Value) (l : List En) (w : World) (hl : l.length ≤ 1073741824) (eg : ∀ args w, (callFunc F args).run Try.prog w = .ok (.enter F args) w)
    (hv : RowV w base (.slice A l.length c) l) (hT : TestAt F Bx p w) (hx : Bx < w.heap.size) (hfn : ∃ f1 f2 f3, fn = .func f1 f2 f3) (hmono : ∀ a b, a ≤ b → b < l.length → p l.toArray[a]! = true → p l.toArray[b]! = true) :
    Calls Try.prog 32 #[.agg #[.slice A l.length c, fn], .func (.func F) #[] #[.pointer (some ⟨Bx, 0, none⟩)]] w fun e w' => e = .returned (.int .i64 ((List.range l.length).countP (fun i => !p l.toArray[i]!) : Nat)) ∧ Below w.heap.size w w' := by
  obtain ⟨f1, f2, f3, rfl⟩ := hfn
  have HB : Below w.heap.size w ((w.alloc (.cells #[.slice A l.length c, .func f1 f2 f3] 43)).alloc (.cells #[.func (.func F) #[] #[.pointer (some ⟨Bx, 0, none⟩)]] 55)) := ((Below.refl _ w).alloc (Nat.le_refl _) _).alloc (by simp) _
  have b0 : ((w.alloc (.cells #[.slice A l.length c, .func f1 f2 f3] 43)).alloc (.cells #[.func (.func F) #[] #[.pointer (some ⟨Bx, 0, none⟩)]] 55)).heap[w.heap.size]? = some (.cells #[.slice A l.length c, .func f1 f2 f3] 43 (0, 0)) := (Below.heap_alloc _ _ _ (by simp)).trans (World.alloc_heap_new w _)
  have b1 : ((w.alloc (.cells #[.slice A l.length c, .func f1 f2 f3] 43)).alloc (.cells #[.func (.func F) #[] #[.pointer (some ⟨Bx, 0, none⟩)]] 55)).heap[w.heap.size + 1]? = some (.cells #[.func (.func F) #[] #[.pointer (some ⟨Bx, 0, none⟩)]] 55 (0, 0)) := by have := World.alloc_heap_new (w.alloc (.cells #[.slice A l.length c, .func f1 f2 f3] 43)) (.cells #[.func (.func F) #[] #[.pointer (some ⟨Bx, 0, none⟩)]] 55); rwa [World.size_alloc] at this
  have hf : ∀ (m : Nat) (os : Array Obj) (i : Nat), i < l.length → Calls Try.prog 39 (#[.int .i64 i] ++ #[.pointer (some ⟨w.heap.size + 1, 0, none⟩), .pointer (some ⟨w.heap.size, 0, none⟩)]) (grow (((w.alloc (.cells #[.slice A l.length c, .func f1 f2 f3] 43)).alloc (.cells #[.func (.func F) #[] #[.pointer (some ⟨Bx, 0, none⟩)]] 55)).drewN m) os) fun e w' => e = .returned (.bool (p l.toArray[i]!)) ∧ ∃ q os', w' = grow ((grow (((w.alloc (.cells #[.slice A l.length c, .func f1 f2 f3] 43)).alloc (.cells #[.func (.func F) #[] #[.pointer (some ⟨Bx, 0, none⟩)]] 55)).drewN m) os).drewN q) os' := by
    intro m os i hi
    have hb := below_grow ((w.alloc (.cells #[.slice A l.length c, .func f1 f2 f3] 43)).alloc (.cells #[.func (.func F) #[] #[.pointer (some ⟨Bx, 0, none⟩)]] 55)) m os
    have hbb := HB.trans (hb.mono (by simp; omega))
    have b0' := (hb.block _ (by simp; omega)).trans b0
    have b1' := (hb.block _ (by simp)).trans b1
    rcases hv with ⟨rfl, _⟩ | ⟨g, cap, h1, h2, h3⟩
    · exact absurd hi (by simp)
    · cases h1
      obtain ⟨⟨c0, c1⟩, -, -⟩ := (h3.below hbb).cell (j := i) (by simpa using hi)
      have hsz := hbb.size
      have hxb := hbb.block Bx hx
      clear hb HB b0 b1
      generalize grow (((w.alloc (.cells #[.slice (some ⟨g, 0, none⟩) l.length c, .func f1 f2 f3] 43)).alloc (.cells #[.func (.func F) #[] #[.pointer (some ⟨Bx, 0, none⟩)]] 55)).drewN m) os = W' at *
      exact from1_calls F Bx (w.heap.size + 1) w.heap.size g c l.length i l.toArray[i]! (p l.toArray[i]!) W' hi hl eg (hT W'.drew hsz hxb _) (cell_of_blk b1' rfl) (cell_of_blk b0' rfl) c0 c1
  have eg39 : ∀ args w, (callFunc 39 args).run Try.prog w = .ok (.enter 39 args) w := enters_of Try.func39 (by kernel_rfl) rfl
  have CS := Any.sort_Search Try.searchO 39 #[.pointer (some ⟨w.heap.size + 1, 0, none⟩), .pointer (some ⟨w.heap.size, 0, none⟩)] l.length (fun i => p l.toArray[i]!) _ eg39 (by omega) hf hmono
  change Calls Try.prog 38 _ _ _ at CS
  have k0 := cell_of_blk b0 (j := 0) rfl
  have HB' := Lib.hid HB
  clear hf hT hv hmono HB b0 b1 eg39
  generalize (List.range l.length).countP (fun i => !p l.toArray[i]!) = r at CS ⊢
  go_enter Try.func32, Try.ntmps32
  go_wp2_with (go_at_call 38; refine CS.mono ?_; rintro e w1 ⟨rfl, q, os, rfl⟩)
  go_ret
  exact ⟨rfl, HB'.out.trans ((below_grow _ q os).mono (by simp; omega))⟩
end Go.Proofs.Ytdbdkcmbenokbaa.G

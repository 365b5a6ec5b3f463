/- Ranges: the methods of an index: Count, Len, Least, Greatest, Entries, Between. -/
import Derived.Test.YtdbdkcmbenokbaaGPart
import Derived.IntWalk
namespace Go.Proofs.Ytdbdkcmbenokbaa.G
open Go.RowKit Go.Sort Go.Lib Go.Shelf
set_option linter.unusedVariables false

def VOut (w : World) (v : Value) (e : Ending) (w' : World) : Prop := e = .returned v ∧ Below w.heap.size w w'
theorem count_of (x : Option Addr) (low high : Int) (sub : List En) (w : World) (CC : Calls Try.prog 24 #[.pointer x, .int .i64 low, .int .i64 high] w (POut w sub)) :
    Calls Try.prog 9 #[.pointer x, .int .i64 low, .int .i64 high] w (VOut w (.int .i64 sub.length)) := by
  go_enter Try.func9, Try.ntmps9
  go_wp2_with (go_at_call 24; refine CC.mono ?_; rintro e w1 ⟨A', c', rfl, hc', hr, hB⟩)
  go_ret
  exact ⟨rfl, hB⟩
theorem len_nil (w : World) : Calls Try.prog 10 #[.pointer none] w fun e w' => e = .returned (.int .i64 0) ∧ w' = w := by
  go_enter Try.func10, Try.ntmps10
  go_wp2
  go_ret
  exact ⟨rfl, rfl⟩
theorem len_calls (x base : Nat) (l : List En) (w : World) (hI : Idx w base x l) : Calls Try.prog 10 #[.pointer (some ⟨x, 0, none⟩)] w fun e w' => e = .returned (.int .i64 l.length) ∧ w' = w := by
  obtain ⟨A, c, k0, k1, hc, hv⟩ := hI.cells
  clear hI hv
  go_enter Try.func10, Try.ntmps10
  go_wp2
  go_ret
  exact ⟨rfl, rfl⟩
theorem entries_nil (w : World) : Calls Try.prog 13 #[.pointer none] w fun e w' => e = .returned (.slice none 0 0) ∧ w' = w := by
  go_enter Try.func13, Try.ntmps13
  go_wp2
  go_ret
  exact ⟨rfl, rfl⟩
theorem RdE.of_row {W : World} {base c : Nat} {A : Option Addr} {l : List En} (h : RowV W base (.slice A l.length c) l) : RdE W A l := fun hn => by
  rcases h with ⟨rfl, _⟩ | ⟨g, cap, h1, h2, h3⟩
  · exact absurd hn (by simp)
  · cases h1
    exact ⟨_, rfl, fun j u hu => by rw [Addr.add_lit, Nat.zero_add]; exact h3.flat _ _ hu⟩
theorem entries_calls (x base : Nat) (l : List En) (w : World) (hI : Idx w base x l) (hlen : l.length ≤ 1073741824) :
    Calls Try.prog 13 #[.pointer (some ⟨x, 0, none⟩)] w fun e w' => ∃ v, e = .returned v ∧ RowV w' w.heap.size v l ∧ Below w.heap.size w w' := by
  obtain ⟨A, c, k0, k1, hc, hv⟩ := hI.cells
  have CC := cloneE_calls A l.length c l w rfl hlen (RdE.of_row hv)
  clear hI hv
  go_enter Try.func13, Try.ntmps13
  go_wp2_with (go_at_call 26; refine CC.mono ?_; rintro e w1 ⟨v, rfl, h1, h2⟩)
  go_ret
  exact ⟨v, rfl, h1, h2⟩
/-- Least and Greatest of what has no entry. -/
theorem least_nil (w : World) : Calls Try.prog 16 #[.pointer none] w fun e w' => e = .returned (.tuple #[.int .i64 0, .bool false]) ∧ w' = w := by
  go_enter Try.func16, Try.ntmps16
  go_wp2_with (go_at_call 10; refine (len_nil _).mono ?_; rintro e w1 ⟨rfl, rfl⟩)
  go_ret2
  exact ⟨rfl, rfl⟩
theorem greatest_nil (w : World) : Calls Try.prog 17 #[.pointer none] w fun e w' => e = .returned (.tuple #[.int .i64 0, .bool false]) ∧ w' = w := by
  go_enter Try.func17, Try.ntmps17
  go_wp2_with (go_at_call 10; refine (len_nil _).mono ?_; rintro e w1 ⟨rfl, rfl⟩)
  go_ret2
  exact ⟨rfl, rfl⟩
theorem least_none (x base : Nat) (w : World) (hI : Idx w base x []) : Calls Try.prog 16 #[.pointer (some ⟨x, 0, none⟩)] w fun e w' => e = .returned (.tuple #[.int .i64 0, .bool false]) ∧ w' = w := by
  have CC := len_calls x base [] w hI
  clear hI
  go_enter Try.func16, Try.ntmps16
  go_wp2_with (go_at_call 10; refine CC.mono ?_; rintro e w1 ⟨rfl, rfl⟩)
  go_ret2
  exact ⟨rfl, rfl⟩
theorem greatest_none (x base : Nat) (w : World) (hI : Idx w base x []) : Calls Try.prog 17 #[.pointer (some ⟨x, 0, none⟩)] w fun e w' => e = .returned (.tuple #[.int .i64 0, .bool false]) ∧ w' = w := by
  have CC := len_calls x base [] w hI
  clear hI
  go_enter Try.func17, Try.ntmps17
  go_wp2_with (go_at_call 10; refine CC.mono ?_; rintro e w1 ⟨rfl, rfl⟩)
  go_ret2
  exact ⟨rfl, rfl⟩
set_option maxHeartbeats 1000000 in
theorem least_some (x base : Nat) (l : List En) (w : World) (hI : Idx w base x l) (hn : 0 < l.length) : Calls Try.prog 16 #[.pointer (some ⟨x, 0, none⟩)] w fun e w' => e = .returned (.tuple #[.int .i64 l.toArray[0]!.1, .bool true]) ∧ w' = w := by
  have CC := len_calls x base l w hI
  obtain ⟨A, c, k0, k1, hc, hv⟩ := hI.cells
  rcases hv with ⟨rfl, _⟩ | ⟨g, cap, h1, h2, h3⟩
  · exact absurd hn (by simp)
  · cases h1
    obtain ⟨⟨c0, c1⟩, -, -⟩ := h3.cell (j := 0) (by simpa using hn)
    rw [Nat.zero_mul] at c0 c1
    generalize l.toArray[0]!.1 = n0 at c0 ⊢
    have hd : ((l.length : Int) == 0) = false := beq_eq_false_iff_ne.2 (by omega)
    have hp : ((0 : Int) < (l.length : Int)) = True := eq_true (by omega)
    have hp2 : (0 < l.length) = True := eq_true hn
    clear hI h3 hn h2
    go_enter Try.func16, Try.ntmps16
    go_wp2_with (go_at_call 10; refine CC.mono ?_; rintro e w1 ⟨rfl, rfl⟩)
    go_ret2
    exact ⟨rfl, rfl⟩
set_option maxHeartbeats 1000000 in
theorem greatest_some (x base : Nat) (l : List En) (w : World) (hI : Idx w base x l) (hn : 0 < l.length) (hlen : l.length ≤ 1073741824) : Calls Try.prog 17 #[.pointer (some ⟨x, 0, none⟩)] w fun e w' => e = .returned (.tuple #[.int .i64 l.toArray[l.length - 1]!.1, .bool true]) ∧ ∃ q, w' = w.drewN q := by
  have CC := len_calls x base l w hI
  obtain ⟨A, c, k0, k1, hc, hv⟩ := hI.cells
  rcases hv with ⟨rfl, _⟩ | ⟨g, cap, h1, h2, h3⟩
  · exact absurd hn (by simp)
  · cases h1
    obtain ⟨⟨c0, c1⟩, -, -⟩ := h3.cell (j := l.length - 1) (by simp; omega)
    generalize l.toArray[l.length - 1]!.1 = n0 at c0 ⊢
    have hd : ((l.length : Int) == 0) = false := beq_eq_false_iff_ne.2 (by omega)
    have q2 : ((1 : Int) ≤ (l.length : Int)) = True := eq_true (by omega)
    have q2' : (l.length : Int) - 1 < (l.length : Int) := by omega
    have q3 : ((l.length : Int) - 1).toNat = l.length - 1 := by omega
    have q0 : IntKind.i64.wrap ((l.length : Int) - 1) = (l.length : Int) - 1 := IntWalk.i64_in _ (by omega)
    clear hI h3 hn h2 hlen
    go_enter Try.func17, Try.ntmps17
    go_wp2_with (go_at_call 10; refine CC.mono ?_; rintro e w1 ⟨rfl, rfl⟩)
    go_quiet (fail)
    go_wp2_with fail
    go_ret2
    exact ⟨rfl, nq, rfl⟩
end Go.Proofs.Ytdbdkcmbenokbaa.G

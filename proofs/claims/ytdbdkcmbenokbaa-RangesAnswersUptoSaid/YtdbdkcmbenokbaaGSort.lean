/- Ranges: slices.Clone and slices.SortFunc over entries: the copy lies in new memory; sorted by number, then id. -/
import Derived.Test.YtdbdkcmbenokbaaGCompact
import Derived.Test.YtdbdkcmbenokbaaShelf
import Derived.Shelf.SlSortCmp.NoneTotal
import Derived.Laws.AppendOwn
import Derived.OwnWalk
namespace Go.Proofs.Ytdbdkcmbenokbaa.G
open Go.RowKit Go.Sort Go.Lib Go.Shelf
set_option linter.unusedVariables false

theorem infoE : (Try.prog.info? 32).map (fun i => (i.zero, i.size, i.bytes)) = some (some (.agg #[.int .i64 0, .int .i64 0]), 2, 16) := by kernel_rfl
/-- The entries that a list's address reads as. -/
def RdE (W : World) (A : Option Addr) (l : List En) : Prop := 0 < l.length → ∃ ad, A = some ad ∧ ∀ j u, (flatE l)[j]? = some u → W.cell? (ad.add j) = some u
/-- A list value of the call's own: nil and none, or the head of a block from base on. -/
def RowV (W : World) (base : Nat) (v : Value) (l : List En) : Prop := (l = [] ∧ v = .slice none 0 0) ∨ ∃ g cap, v = .slice (some ⟨g, 0, none⟩) l.length cap ∧ base ≤ g ∧ RowD W g cap l.toArray
theorem flatE_one (l : List En) : ∀ u ∈ flatE l, u.oneCell' = true := by
  intro u hu
  obtain ⟨x, _, hx⟩ := List.mem_flatMap.1 hu
  simp [encE] at hx
  rcases hx with rfl | rfl <;> rfl
theorem flatE_at (l : List En) (j : Nat) (h : j < l.length) : (flatE l)[j * 2]? = some (I64 l.toArray[j]!.1) ∧ (flatE l)[j * 2 + 1]? = some (I64 l.toArray[j]!.2) := by
  have e1 : j * 2 / 2 = j := by omega
  have e2 : j * 2 % 2 = 0 := by omega
  have e3 : (j * 2 + 1) / 2 = j := by omega
  have e4 : (j * 2 + 1) % 2 = 1 := by omega
  rw [flatE_get l _ (by omega), flatE_get l _ (by omega), e1, e2, e3, e4]
  exact ⟨rfl, rfl⟩
theorem rowV_of_own {W : World} {base : Nat} {v : Value} {l : List En} (h : W.ownsRow base 32 2 v l.length (flatE l)) : RowV W base v l := by
  rcases h.2 with ⟨rfl, hn⟩ | ⟨g, cap, cur, rfl, hg, hh, hnc, hc, hs, ht⟩
  · exact .inl ⟨List.eq_nil_of_length_eq_zero hn, rfl⟩
  · refine .inr ⟨g, cap, rfl, hg, cur, hh, hs, by simpa using hnc, fun j hj => ?_⟩
    have hj' : j < l.length := by simpa using hj
    obtain ⟨h0, h1⟩ := flatE_at l j hj'
    rw [← ht, List.getElem?_take_of_lt (by omega), Array.getElem?_toList] at h0
    rw [← ht, List.getElem?_take_of_lt (by omega), Array.getElem?_toList] at h1
    exact ⟨h0, h1⟩
set_option maxHeartbeats 1000000 in
theorem cloneE_some (ad : Addr) (n c : Nat) (l : List En) (w : World) (hn : n = l.length) (hb : l.length ≤ 1073741824) (hc : ∀ j u, (flatE l)[j]? = some u → w.cell? (ad.add j) = some u) :
    Calls Try.prog 26 #[.slice (some ad) n c] w fun e w' => ∃ v, e = .returned v ∧ RowV w' w.heap.size v l ∧ Below w.heap.size w w' := by
  have q22 : ∀ (w : World) (a : Option Addr) (n c n' c' : Nat), (binOp .eql 22 (.slice a n c) (.slice none n' c')).run Try.prog w = .ok (.bool a.isNone) w := fun w a n c n' c' => Lib.run_eql_slice_nil w _ _ a n c n' c' Try.underlying22
  have HC := Lib.hid hc
  have HN := Lib.hid hn
  clear hc hn
  obtain ⟨i0, hi, hz0, hz1, hz2⟩ := info_parts infoE
  go_enter Try.func26, Try.ntmps26
  go_wp2_with (at_builtin; refine wpList_append_own _ rfl _ _ 22 rfl w.heap.size 32 i0 (.agg #[.int .i64 0, .int .i64 0]) 2 16 Try.underlying22 hi hz0 hz1 hz2 rfl (by decide) _ _ _ rfl (World.ownsRow_made w #[] 0 (Nat.le_refl _) (Nat.zero_le _) (by simp)) ad n c (flatE l) rfl ?qc1 ?qc2 ?qc3 ?qc4 ?qc5 ?qc6 ?_)
  case qc1 => rw [flatE_len, HN.out]
  case qc2 => exact fun j u hj => Lib.cell?_alloc_some _ (HC.out j u hj)
  case qc3 => exact flatE_one l
  case qc4 => rw [Nat.zero_add, HN.out]; unfold maxLen; omega
  case qc5 => rw [Nat.zero_add, HN.out]; omega
  case qc6 => simp
  intro v' w1 hown hgrow hnil
  go_wp2
  go_ret
  refine ⟨v', rfl, rowV_of_own (by rw [← HN.out]; simpa using hown), ?_⟩
  exact ((Below.refl _ w).alloc (Nat.le_refl _) _).grown hgrow (by simp) (by intro k hk; simp [Value.ownBlock] at hk; omega)
set_option maxHeartbeats 1000000 in
theorem cloneE_nil (n c : Nat) (w : World) :
    Calls Try.prog 26 #[.slice none n c] w fun e w' => e = .returned (.slice none 0 0) ∧ w' = w := by
  have q22 : ∀ (w : World) (a : Option Addr) (n c n' c' : Nat), (binOp .eql 22 (.slice a n c) (.slice none n' c')).run Try.prog w = .ok (.bool a.isNone) w := fun w a n c n' c' => Lib.run_eql_slice_nil w _ _ a n c n' c' Try.underlying22
  go_enter Try.func26, Try.ntmps26
  go_wp2
  go_ret
  exact ⟨rfl, rfl⟩
theorem cloneE_calls (A : Option Addr) (n c : Nat) (l : List En) (w : World) (hn : n = l.length) (hb : l.length ≤ 1073741824) (hc : RdE w A l) :
    Calls Try.prog 26 #[.slice A n c] w fun e w' => ∃ v, e = .returned v ∧ RowV w' w.heap.size v l ∧ Below w.heap.size w w' := by
  cases A with
  | none =>
    refine (cloneE_nil n c w).mono ?_
    rintro e w' ⟨rfl, rfl⟩
    have h0 : l = [] := by
      rcases Nat.eq_zero_or_pos l.length with h | h
      · exact List.eq_nil_of_length_eq_zero h
      · obtain ⟨ad, h1, _⟩ := hc h
        cases h1
    exact ⟨_, rfl, .inl ⟨h0, rfl⟩, Below.refl _ _⟩
  | some ad =>
    refine cloneE_some ad n c l w hn hb fun j u hj => ?_
    have h0 : 0 < l.length := by
      rcases Nat.eq_zero_or_pos l.length with h | h
      · rw [List.eq_nil_of_length_eq_zero h] at hj
        simp [flatE] at hj
      · exact h
    obtain ⟨ad', h1, h2⟩ := hc h0
    cases h1
    exact h2 j u hj

/-! ### the order -/
theorem cmpE_lt (x y : En) : cmpE x y < 0 ↔ x.1 < y.1 ∨ (x.1 = y.1 ∧ x.2 < y.2) := by
  simp only [cmpE, orI, cmpI]
  (repeat' split) <;> omega
theorem ltOf_iff (x y : En) : ltOf cmpE x y = true ↔ x.1 < y.1 ∨ (x.1 = y.1 ∧ x.2 < y.2) := by
  unfold ltOf; rw [decide_eq_true_iff]; exact cmpE_lt x y
theorem ltOf_not (x y : En) : ltOf cmpE x y = false ↔ y.1 < x.1 ∨ (x.1 = y.1 ∧ y.2 ≤ x.2) := by
  rw [← Bool.not_eq_true, ltOf_iff]; omega
theorem swoE : SWO (ltOf cmpE) where
  irrefl x := by rw [ltOf_not]; omega
  trans x y z h1 h2 := by rw [ltOf_iff] at *; omega
  ntrans x y z h1 h2 := by rw [ltOf_not] at *; omega
theorem antiE (x y : En) (h1 : ltOf cmpE x y = false) (h2 : ltOf cmpE y x = false) : x = y := by
  rw [ltOf_not] at h1 h2
  exact Prod.ext (by omega) (by omega)
def sortE (l : List En) : List En := l.mergeSort fun x y => !(ltOf cmpE) y x
def norm (l : List En) : List En := compact (sortE l)
theorem sortE_len (l : List En) : (sortE l).length = l.length := by simp [sortE]
theorem compact_le {α : Type} [Inhabited α] [DecidableEq α] (zs : List α) : (Lib.compact zs).length ≤ zs.length := by
  unfold Lib.compact Lib.compactUpTo
  rw [List.length_map]
  exact Nat.le_trans (List.length_filter_le _ _) (by simp)
theorem norm_le (l : List En) : (norm l).length ≤ l.length := by have := compact_le (sortE l); rw [sortE_len] at this; exact this

theorem holdsK_row {W : World} {g cap : Nat} {dk : Array En} (h : RowD W g cap dk) : HoldsK encE 2 W g 0 dk := by
  intro t ht
  have ht' : t < dk.size * 2 := by simpa using ht
  obtain ⟨⟨h0, h1⟩, ⟨f0, f1⟩, _⟩ := h.cell (j := t / 2) (by omega)
  rw [get_flatK encE 2 dk t ht']
  rcases (by omega : t % 2 = 0 ∨ t % 2 = 1) with e | e
  · have et : 0 + t = t / 2 * 2 := by omega
    rw [et, e]
    exact ⟨h0, f0⟩
  · have et : 0 + t = t / 2 * 2 + 1 := by omega
    rw [et, e]
    exact ⟨h1, f1⟩
theorem row_sorted {w : World} {g cap q : Nat} {os : Array Obj} {d0 d : Array En} (h : RowD w g cap d0) (hs : d.size = d0.size) : RowD (sortWorldK encE 2 w g 0 q d os) g cap d ∧ w.grownBy (sortWorldK encE 2 w g 0 q d os) (some g) := by
  obtain ⟨cur, hb, hcs, hc, _⟩ := h
  have hg : g < w.heap.size := (Array.getElem?_eq_some_iff.1 hb).1
  refine ⟨⟨putCells id 0 (flatK encE 2 d) cur, ?_, by simp [putCells, hcs], by omega, fun j hj => ?_⟩, ?_⟩
  · unfold sortWorldK putRowK
    rw [heap_grow_old _ _ (by simpa using hg)]
    simp [putRow, mapBlock, Sort.ahead, Array.getElem?_modify, hb, onCells]
  · have e1 : j * 2 / 2 = j := by omega
    have e2 : j * 2 % 2 = 0 := by omega
    have e3 : (j * 2 + 1) / 2 = j := by omega
    have e4 : (j * 2 + 1) % 2 = 1 := by omega
    have g0 := get_flatK encE 2 d (j * 2) (by omega)
    have g1 := get_flatK encE 2 d (j * 2 + 1) (by omega)
    rw [e1, e2] at g0
    rw [e3, e4] at g1
    refine ⟨?_, ?_⟩
    · simp [putCells, show j * 2 < cur.size by omega]
      rw [if_pos (by omega)]
      exact g0
    · simp [putCells, show j * 2 + 1 < cur.size by omega]
      rw [if_pos (by omega)]
      exact g1
  · refine ⟨rfl, rfl, rfl, by simp [sortWorldK, putRowK], fun k hk hne => ?_⟩
    unfold sortWorldK putRowK
    rw [heap_grow_old _ _ (by simpa using hk)]
    have : g ≠ k := fun e => hne (by rw [e])
    simp [putRow, mapBlock, Sort.ahead, Array.getElem?_modify, this]
theorem sortE_calls (g cap : Nat) (l : List En) (w : World) (hr : RowD w g cap l.toArray) (hlen : l.length ≤ 1073741824) :
    Calls Try.prog 28 #[.slice (some ⟨g, 0, none⟩) l.length cap, .func (.func 21) #[] #[]] w fun e w' => e = .returned (.tuple #[]) ∧ RowD w' g cap (sortE l).toArray ∧ w.grownBy w' (some g) := by
  have eg : ∀ args w, (callFunc 21 args).run Try.prog w = .ok (.enter 21 args) w := enters_of Try.func21 (by kernel_rfl) rfl
  have h := AnyQ.slices_SortFunc_total Try.sortF 2 Try.isAgg32 Try.sizeOf32 encE (fun _ => rfl) (fun x v hv => by simp [encE] at hv; rcases hv with rfl | rfl <;> rfl) cmpE swoE 21 #[] g 0 cap l.toArray w eg (fun _ _ _ _ x y => ord_calls x y _) (holdsK_row hr) hr.lt (by simp; omega) antiE
  simp only [List.size_toArray] at h
  refine Calls.mono h fun e w' ⟨he, n, os, hw⟩ => ?_
  subst hw
  have hs := row_sorted (q := n) (os := os) (d := (sortE l).toArray) hr (by simp [sortE_len])
  exact ⟨he, hs.1, hs.2⟩
theorem sortE_none (p : Option Addr) (cap : Nat) (fv : Value) (w : World) :
    Calls Try.prog 28 #[.slice p 0 cap, fv] w fun e w' => e = .returned (.tuple #[]) ∧ w' = w := AnyF.slices_SortFunc_none Try.sortF p cap fv w
set_option maxHeartbeats 1000000 in
theorem compact_none (p : Option Addr) (cap : Nat) (fv : Value) (w : World) :
    Calls Try.prog 29 #[.slice p 0 cap, fv] w fun e w' => e = .returned (.slice p 0 cap) ∧ w' = w := by
  go_enter Try.func29, Try.ntmps29
  go_wp2
  go_ret
  exact ⟨rfl, rfl⟩
end Go.Proofs.Ytdbdkcmbenokbaa.G

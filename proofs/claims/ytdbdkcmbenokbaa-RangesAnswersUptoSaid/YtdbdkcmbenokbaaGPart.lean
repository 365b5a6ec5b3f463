/- Ranges: part: the entries of a range, as the methods see them. -/
import Derived.Test.YtdbdkcmbenokbaaGFrom
import Derived.OpenShut
namespace Go.Proofs.Ytdbdkcmbenokbaa.G
open Go.RowKit Go.Sort Go.Lib Go.Shelf
set_option linter.unusedVariables false

/-! ### plain -/
def inR (low high : Int) (e : En) : Bool := decide (low ≤ e.1) && decide (e.1 ≤ high)
theorem range_count (l : List En) (q : En → Bool) : (List.range l.length).countP (fun i => q l.toArray[i]!) = l.countP q := by
  have h := range_map_get l.toArray
  have h2 : l.countP q = ((List.range l.toArray.size).map (l.toArray[·]!)).countP q := by rw [h]
  rw [h2, List.countP_map]
  simp [Function.comp_def]
theorem drop_low (low : Int) : ∀ (l : List En), l.Pairwise (fun x y => x.1 ≤ y.1) → l.drop (l.countP fun e => !decide (e.1 ≥ low)) = l.filter fun e => decide (low ≤ e.1) := by
  intro l hs
  induction l with
  | nil => rfl
  | cons x r ih =>
    rw [List.pairwise_cons] at hs
    by_cases h : low ≤ x.1
    · have h1 : (x :: r).countP (fun e => !decide (e.1 ≥ low)) = 0 := by
        rw [List.countP_eq_zero]
        intro e he
        rcases List.mem_cons.1 he with rfl | he
        · simpa using h
        · have := hs.1 e he
          simp; omega
      have h2 : (x :: r).filter (fun e => decide (low ≤ e.1)) = x :: r := by
        rw [List.filter_eq_self]
        intro e he
        rcases List.mem_cons.1 he with rfl | he
        · simpa using h
        · have := hs.1 e he
          simp; omega
      rw [h1, h2]; rfl
    · rw [List.countP_cons_of_pos (by simpa using h), List.filter_cons_of_neg (by simpa using h), List.drop_succ_cons]
      exact ih hs.2
theorem take_high (high : Int) : ∀ (l : List En), l.Pairwise (fun x y => x.1 ≤ y.1) → l.take (l.countP fun e => !decide (e.1 > high)) = l.filter fun e => decide (e.1 ≤ high) := by
  intro l hs
  induction l with
  | nil => rfl
  | cons x r ih =>
    rw [List.pairwise_cons] at hs
    by_cases h : x.1 ≤ high
    · rw [List.countP_cons_of_pos (by simpa using h), List.filter_cons_of_pos (by simpa using h), List.take_succ_cons, ih hs.2]
    · have h1 : (x :: r).countP (fun e => !decide (e.1 > high)) = 0 := by
        rw [List.countP_eq_zero]
        intro e he
        rcases List.mem_cons.1 he with rfl | he
        · simpa using h
        · have := hs.1 e he
          simp; omega
      have h2 : (x :: r).filter (fun e => decide (e.1 ≤ high)) = [] := by
        rw [List.filter_eq_nil_iff]
        intro e he
        rcases List.mem_cons.1 he with rfl | he
        · simpa using h
        · have := hs.1 e he
          simp; omega
      rw [h1, h2]; rfl
theorem part_plain (l : List En) (hs : l.Pairwise (fun x y => x.1 ≤ y.1)) (low high : Int) (h : low ≤ high) :
    (List.range l.length).countP (fun i => !decide (l.toArray[i]!.1 ≥ low)) ≤ (List.range l.length).countP (fun i => !decide (l.toArray[i]!.1 > high)) ∧ (List.range l.length).countP (fun i => !decide (l.toArray[i]!.1 > high)) ≤ l.length ∧
    (l.drop ((List.range l.length).countP (fun i => !decide (l.toArray[i]!.1 ≥ low)))).take ((List.range l.length).countP (fun i => !decide (l.toArray[i]!.1 > high)) - (List.range l.length).countP (fun i => !decide (l.toArray[i]!.1 ≥ low))) = l.filter (inR low high) := by
  rw [range_count l (fun e => !decide (e.1 ≥ low)), range_count l (fun e => !decide (e.1 > high))]
  refine ⟨List.countP_mono_left (fun e _ he => by simp at he ⊢; omega), List.countP_le_length, ?_⟩
  rw [← List.drop_take, take_high high l hs]
  have h1 : l.countP (fun e => !decide (e.1 ≥ low)) = (l.filter fun e => decide (e.1 ≤ high)).countP (fun e => !decide (e.1 ≥ low)) := by
    rw [List.countP_filter]
    apply List.countP_congr
    intro e _
    simp; omega
  rw [h1, drop_low low _ (hs.filter _), List.filter_filter]
  rfl

theorem flatE_drop (l : List En) (a : Nat) : flatE (l.drop a) = (flatE l).drop (a * 2) := by
  induction l generalizing a with
  | nil => simp [flatE]
  | cons x r ih =>
    cases a with
    | zero => simp
    | succ a =>
      rw [List.drop_succ_cons, ih, show (a + 1) * 2 = a * 2 + 2 by omega]
      simp [flatE, encE]
theorem flatE_take (l : List En) (a : Nat) : flatE (l.take a) = (flatE l).take (a * 2) := by
  induction l generalizing a with
  | nil => simp [flatE]
  | cons x r ih =>
    cases a with
    | zero => simp [flatE]
    | succ a =>
      rw [List.take_succ_cons, show (a + 1) * 2 = a * 2 + 2 by omega]
      have : flatE (x :: r.take a) = encE x ++ flatE (r.take a) := rfl
      rw [this, ih]
      simp [flatE, encE]
theorem RowD.flat {W : World} {g cap : Nat} {l : List En} (h : RowD W g cap l.toArray) (t : Nat) (u : Value) (hu : (flatE l)[t]? = some u) : W.cell? ⟨g, t, none⟩ = some u := by
  have ht : t < l.length * 2 := by
    have := (List.getElem?_eq_some_iff.1 hu).1
    rwa [flatE_len] at this
  obtain ⟨⟨h0, h1⟩, -, -⟩ := h.cell (j := t / 2) (by simp; omega)
  obtain ⟨f0, f1⟩ := flatE_at l (t / 2) (by omega)
  rcases (by omega : t = t / 2 * 2 ∨ t = t / 2 * 2 + 1) with e | e
  · rw [← e] at f0 h0
    rw [h0]
    exact f0.symm.trans hu
  · rw [← e] at f1 h1
    rw [h1]
    exact f1.symm.trans hu
/-- A part of the row, read at its own address. -/
theorem RowD.part {W : World} {g cap : Nat} {l : List En} (h : RowD W g cap l.toArray) (a b : Nat) : RdE W (some ⟨g, a * 2, none⟩) ((l.drop a).take (b - a)) := fun _ => by
  refine ⟨_, rfl, fun j u hu => ?_⟩
  rw [Addr.add_lit]
  rw [flatE_take, flatE_drop] at hu
  have hj : j < (b - a) * 2 := by
    have := (List.getElem?_eq_some_iff.1 hu).1
    simp at this; omega
  rw [List.getElem?_take_of_lt hj, List.getElem?_drop] at hu
  exact h.flat _ _ hu

/-! ### the walk -/
def POut (w : World) (sub : List En) (e : Ending) (w' : World) : Prop := ∃ A' c', e = .returned (.slice A' sub.length c') ∧ sub.length ≤ c' ∧ RdE w' A' sub ∧ Below w.heap.size w w'
set_option maxHeartbeats 1000000 in
theorem part_nil (low high : Int) (w : World) : Calls Try.prog 24 #[.pointer none, .int .i64 low, .int .i64 high] w (POut w []) := by
  go_enter Try.func24, Try.ntmps24
  go_wp2
  go_ret
  exact ⟨none, 0, rfl, Nat.le_refl _, fun h => absurd h (by simp), ((Below.refl _ w).alloc (Nat.le_refl _) _).alloc (by simp) _⟩
set_option maxHeartbeats 1000000 in
theorem part_none (x : Nat) (low high : Int) (w : World) (h : high < low) : Calls Try.prog 24 #[.pointer (some ⟨x, 0, none⟩), .int .i64 low, .int .i64 high] w (POut w []) := by
  go_enter Try.func24, Try.ntmps24
  go_wp2
  go_ret
  exact ⟨none, 0, rfl, Nat.le_refl _, fun h => absurd h (by simp), ((Below.refl _ w).alloc (Nat.le_refl _) _).alloc (by simp) _⟩
theorem test_low (low : Int) (B : Nat) (W : World) (h : W.cell? ⟨B, 0, none⟩ = some (.int .i64 low)) : TestAt 33 B (fun e => decide (e.1 ≥ low)) W := fun W' hz hb x =>
  geq_calls x B low W' ((World.cell?_of_block (a := ⟨B, 0, none⟩) hb).trans h) (Nat.lt_of_lt_of_le (World.block_lt_of_cell? _ _ h) hz)
theorem test_high (high : Int) (B : Nat) (W : World) (h : W.cell? ⟨B, 0, none⟩ = some (.int .i64 high)) : TestAt 34 B (fun e => decide (e.1 > high)) W := fun W' hz hb x =>
  gtr_calls x B high W' ((World.cell?_of_block (a := ⟨B, 0, none⟩) hb).trans h) (Nat.lt_of_lt_of_le (World.block_lt_of_cell? _ _ h) hz)
theorem sorted_at {l : List En} (hs : l.Pairwise (fun x y => x.1 ≤ y.1)) {a b : Nat} (hab : a ≤ b) (hb : b < l.length) : l.toArray[a]!.1 ≤ l.toArray[b]!.1 := by
  rw [getElem!_pos l.toArray a (by simp; omega), getElem!_pos l.toArray b (by simpa using hb)]
  rcases Nat.eq_or_lt_of_le hab with rfl | h
  · exact Int.le_refl _
  · exact List.pairwise_iff_getElem.1 hs a b (by omega) hb h
theorem Idx.cells {W : World} {base x : Nat} {l : List En} (h : Idx W base x l) : ∃ A c, W.cell? ⟨x, 0, none⟩ = some (.slice A l.length c) ∧ W.cell? ⟨x, 1, none⟩ = some (.func (.func 21) #[] #[]) ∧ l.length ≤ c ∧ RowV W base (.slice A l.length c) l := by
  obtain ⟨_, A, c, h1, h2, h3⟩ := h
  exact ⟨A, c, by simp [World.cell?, h1], by simp [World.cell?, h1], h2, h3⟩
set_option maxHeartbeats 4000000 in
theorem part_calls (x base : Nat) (l : List En) (low high : Int) (w : World) (hI : Idx w base x l) (hs : l.Pairwise (fun x y => x.1 ≤ y.1)) (hlen : l.length ≤ 1073741824) (hlh : low ≤ high) :
    Calls Try.prog 24 #[.pointer (some ⟨x, 0, none⟩), .int .i64 low, .int .i64 high] w (POut w (l.filter (inR low high))) := by
  obtain ⟨p1, p2, p3⟩ := part_plain l hs low high hlh
  rw [← p3]
  have e1 : ∀ args w, (callFunc 33 args).run Try.prog w = .ok (.enter 33 args) w := enters_of Try.func33 (by kernel_rfl) rfl
  have e2 : ∀ args w, (callFunc 34 args).run Try.prog w = .ok (.enter 34 args) w := enters_of Try.func34 (by kernel_rfl) rfl
  have HB : Below w.heap.size w ((w.alloc (.cells #[.int .i64 low] 3)).alloc (.cells #[.int .i64 high] 3)) := ((Below.refl _ w).alloc (Nat.le_refl _) _).alloc (by simp) _
  have b0 : ((w.alloc (.cells #[.int .i64 low] 3)).alloc (.cells #[.int .i64 high] 3)).cell? ⟨w.heap.size, 0, none⟩ = some (.int .i64 low) := cell_of_blk ((Below.heap_alloc _ _ _ (by simp)).trans (World.alloc_heap_new w _)) rfl
  have b1 : ((w.alloc (.cells #[.int .i64 low] 3)).alloc (.cells #[.int .i64 high] 3)).cell? ⟨w.heap.size + 1, 0, none⟩ = some (.int .i64 high) := cell_of_blk (by have := World.alloc_heap_new (w.alloc (.cells #[.int .i64 low] 3)) (.cells #[.int .i64 high] 3); rwa [World.size_alloc] at this) rfl
  have hI0 := hI.below HB
  obtain ⟨A, c, k0, k1, hc, hv0⟩ := hI.cells
  have hv := hv0.below HB
  have C1 := from_calls 33 w.heap.size base (fun e => decide (e.1 ≥ low)) A c (.func (.func 21) #[] #[]) l _ hlen e1 hv (test_low low _ _ b0) (by simp; omega) ⟨_, _, _, rfl⟩ (fun a b hab hb h => by have h1 := sorted_at hs hab hb; have h2 : l.toArray[a]!.1 ≥ low := of_decide_eq_true h; exact decide_eq_true (by omega))
  have C2 := fun w1 (hb : Below _ _ w1) => from_calls 34 (w.heap.size + 1) base (fun e => decide (e.1 > high)) A c (.func (.func 21) #[] #[]) l w1 hlen e2 (hv.below hb) (test_high high _ _ ((hb.cell (p := ⟨w.heap.size + 1, 0, none⟩) (by simp)).trans b1)) (Nat.lt_of_lt_of_le (by simp) hb.size) ⟨_, _, _, rfl⟩ (fun a b hab hb h => by have h1 := sorted_at hs hab hb; have h2 : l.toArray[a]!.1 > high := of_decide_eq_true h; exact decide_eq_true (by omega))
  generalize (List.range l.length).countP (fun i => !decide (l.toArray[i]!.1 ≥ low)) = a at *
  generalize (List.range l.length).countP (fun i => !decide (l.toArray[i]!.1 > high)) = b at *
  have HX := Lib.hid hI.lt
  have HBx := Lib.hid HB
  have HV := Lib.hid hv
  have hlen3 : ((l.drop a).take (b - a)).length = b - a := by simp; omega
  have HL3 := Lib.hid hlen3
  clear p3 e1 e2 HB hI0 hI hs hv hv0 hlen3
  have q1 : ¬ high < low := by omega
  have q2 : decide (low > high) = false := decide_eq_false (by omega)
  have q3 : ((a : Int) ≤ (b : Int)) = True := eq_true (by omega)
  have q4 : ((b : Int) ≤ (c : Int)) = True := eq_true (by omega)
  have q5 : (a ≤ b) = True := eq_true (by omega)
  have q6 : (b ≤ c) = True := eq_true (by omega)
  have k0' := (HBx.out.cell (p := ⟨x, 0, none⟩) HX.out).trans k0
  have k1' := (HBx.out.cell (p := ⟨x, 1, none⟩) HX.out).trans k1
  have KX : ∀ w2, Below _ _ w2 → w2.cell? ⟨x, 0, none⟩ = some (.slice A l.length c) ∧ w2.cell? ⟨x, 1, none⟩ = some (.func (.func 21) #[] #[]) := fun w2 hb => ⟨(hb.cell (p := ⟨x, 0, none⟩) (Nat.lt_of_lt_of_le HX.out HBx.out.size)).trans k0', (hb.cell (p := ⟨x, 1, none⟩) (Nat.lt_of_lt_of_le HX.out HBx.out.size)).trans k1'⟩
  have HKX := Lib.hid KX
  clear KX
  rcases HV.out with ⟨h0, h⟩ | ⟨g, cap, h1, h2, h3⟩
  · subst h0
    cases h
    obtain rfl : b = 0 := by simp at p2; omega
    obtain rfl : a = 0 := by omega
    have hd0 : decide ((0 : Int) ≤ 0) = true := rfl
    simp only [List.length_nil, Int.natCast_zero] at C1 C2 k0 k0' HKX
    go_enter Try.func24, Try.ntmps24
    go_wp2_with fail
    refine C1.mono ?_
    rintro e w1 ⟨rfl, hb1⟩
    have C3 := C2 w1 hb1
    obtain ⟨n0, n1⟩ := HKX.out w1 hb1
    clear C1 C2 k0 k1 k0' k1' b0 b1
    go_wp2_with fail
    refine C3.mono ?_
    rintro e w2 ⟨rfl, hb2⟩
    have hb3 := hb1.trans (hb2.mono hb1.size)
    obtain ⟨m0, m1⟩ := HKX.out w2 hb3
    clear n0 n1 C3
    go_wp2_with fail
    go_ret
    have hBw := HBx.out.trans (hb3.mono HBx.out.size)
    exact ⟨none, 0, rfl, by simp, fun h => absurd h (by simp), hBw⟩
  · cases h1
    by_cases hac : a = c
    · obtain rfl : b = a := by omega
      subst hac
      go_enter Try.func24, Try.ntmps24
      go_wp2_with fail
      refine C1.mono ?_
      rintro e w1 ⟨rfl, hb1⟩
      have C3 := C2 w1 hb1
      obtain ⟨n0, n1⟩ := HKX.out w1 hb1
      clear C1 C2 k0 k1 k0' k1' b0 b1
      go_wp2_with fail
      refine C3.mono ?_
      rintro e w2 ⟨rfl, hb2⟩
      have hb3 := hb1.trans (hb2.mono hb1.size)
      obtain ⟨m0, m1⟩ := HKX.out w2 hb3
      clear n0 n1 C3
      go_wp2_with fail
      go_ret
      have hBw := HBx.out.trans (hb3.mono HBx.out.size)
      exact ⟨some ⟨g, 0, none⟩, 0, by rw [HL3.out, Nat.sub_self]; rfl, by rw [HL3.out, Nat.sub_self]; exact Nat.le_refl _, fun h => absurd h (by rw [HL3.out]; omega), hBw⟩
    · have hac' : ¬ c = a := fun h => hac h.symm
      have q7 : ((a : Int) < (c : Int)) = True := eq_true (by omega)
      go_enter Try.func24, Try.ntmps24
      go_wp2_with fail
      refine C1.mono ?_
      rintro e w1 ⟨rfl, hb1⟩
      have C3 := C2 w1 hb1
      obtain ⟨n0, n1⟩ := HKX.out w1 hb1
      clear C1 C2 k0 k1 k0' k1' b0 b1
      go_wp2_with fail
      refine C3.mono ?_
      rintro e w2 ⟨rfl, hb2⟩
      have hb3 := hb1.trans (hb2.mono hb1.size)
      obtain ⟨m0, m1⟩ := HKX.out w2 hb3
      clear n0 n1 C3
      go_wp2_with fail
      go_ret
      have hBw := HBx.out.trans (hb3.mono HBx.out.size)
      exact ⟨_, _, by rw [HL3.out]; rfl, by rw [HL3.out]; omega, (h3.below hb3).part a b, hBw⟩
end Go.Proofs.Ytdbdkcmbenokbaa.G

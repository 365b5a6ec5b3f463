/- Words that the hand-typed contracts share: rows of the call's own, as the library's sort and Compact leave them. No function of the program is named here but the library's. -/
import Derived.Test.YthaofmbjkdikbaaDoorWWords
import Derived.Test.YthaofmbjkdikbaaDoorShelf
import Derived.Sort.Grow
namespace Go.Proofs.YthaofmbjkdikbaaDoor.H
open Go.RowKit Go.Sort Go.Proofs.YthaofmbjkdikbaaDoorW.PrintWords

abbrev I64 : Int → Value := Value.int .i64

theorem own_put {α : Type} [Inhabited α] (enc : α → Value) {w : World} {base g cap q : Nat} {e : TypeId} {os : Array Obj} {cur : Array Value} (ys : List α) (m : Nat) (hbase : base ≤ g) (hb : w.heap[g]? = some (.cells cur e (0, 0)))
    (hy : ys.length ≤ cap) (hm : m ≤ ys.length) (h2 : cap ≤ maxLen) (h3 : cur.size = cap * 1) :
    (grow (putRow enc (Sort.ahead w q) g 0 ys.toArray) os).ownsRow base e 1 (.slice (some ⟨g, 0, none⟩) m cap) m ((ys.take m).map enc) := by
  refine ⟨by simp; omega, .inr ⟨g, cap, putCells enc 0 ys.toArray cur, rfl, hbase, ?_, by omega, h2, by simp [putCells, h3], ?_⟩⟩
  · have hg : g < w.heap.size := (Array.getElem?_eq_some_iff.1 hb).1
    rw [heap_grow_old _ _ (by simpa using hg)]
    simp [putRow, mapBlock, Sort.ahead, Array.getElem?_modify, hb, onCells]
  · rw [Nat.mul_one]
    apply List.ext_getElem?
    intro j
    by_cases hj : j < m
    · rw [List.getElem?_take_of_lt hj, Array.getElem?_toList]
      simp [putCells, show j < ys.length by omega, show j < cur.size by omega, hj]
    · rw [List.getElem?_take_eq_none (by omega), List.getElem?_eq_none (by simp; omega)]

theorem grownBy_put {α : Type} [Inhabited α] (enc : α → Value) {w : World} {g q : Nat} {os : Array Obj} (d : Array α) : w.grownBy (grow (putRow enc (Sort.ahead w q) g 0 d) os) (some g) := by
  refine ⟨rfl, rfl, rfl, by simp, fun k hk hne => ?_⟩
  rw [heap_grow_old _ _ (by simpa using hk)]
  have : g ≠ k := fun e => hne (by rw [e])
  simp [putRow, mapBlock, Sort.ahead, Array.getElem?_modify, this]

theorem holds_own {α : Type} [Inhabited α] (enc : α → Value) {w : World} {g : Nat} {cur : Array Value} {e : TypeId} {ys : List α} (hb : w.heap[g]? = some (.cells cur e (0, 0))) (ht : cur.toList.take ys.length = ys.map enc) : Holds enc w g 0 ys.toArray := by
  intro j hj
  have hj' : j < ys.length := by simpa using hj
  refine ⟨?_, by simp [World.frozen?, hb]⟩
  have h1 : (cur.toList.take ys.length)[j]? = (ys.map enc)[j]? := by rw [ht]
  rw [List.getElem?_take_of_lt hj'] at h1
  simp only [World.cell?, hb, Nat.zero_add]
  rw [Array.getElem?_toList] at h1
  simp [h1, hj']

theorem sort_own {w : World} {base : Nat} {v : Value} {zs : List Int} (ho : w.ownsRow base 3 1 v zs.length (zs.map I64)) (hz : zs.length < 4611686018427387904) :
    Calls Tryd.prog 61 #[v] w fun e w' => e = .returned (.tuple #[]) ∧ w'.ownsRow base 3 1 v zs.length ((zs.mergeSort fun x y => decide (x ≤ y)).map I64) ∧ w.grownBy w' v.ownBlock := by
  rcases ho.2 with ⟨rfl, hn⟩ | ⟨g, cap, cur, rfl, hg, hh, hn, hc, hs, ht⟩
  · rw [hn]
    refine (Tryd.slices_Sort_int_none none 0 w).mono ?_
    rintro e w' ⟨rfl, rfl⟩
    have : zs = [] := List.eq_nil_of_length_eq_zero hn
    subst this
    refine ⟨rfl, ?_, ⟨rfl, rfl, rfl, Nat.le_refl _, fun _ _ _ => rfl⟩⟩
    simpa using World.ownsRow_nil w' base 3 1
  · refine (Tryd.slices_Sort_int g 0 cap zs w (holds_own I64 hh (by simpa using ht)) (Array.getElem?_eq_some_iff.1 hh).1 hz).mono ?_
    rintro e w' ⟨rfl, q, os, rfl⟩
    refine ⟨rfl, ?_, grownBy_put _ _⟩
    have h := own_put I64 (w := w) (base := base) (g := g) (cap := cap) (q := q) (os := os) (cur := cur) (e := 3) (zs.mergeSort fun x y => decide (x ≤ y)) zs.length hg hh (by simpa using hn) (by simp) hc hs
    rwa [List.take_of_length_le (by simp)] at h

theorem compact_own {w : World} {base : Nat} {v : Value} {zs : List Int} (ho : w.ownsRow base 3 1 v zs.length (zs.map I64)) (hz : zs.length < 4611686018427387904) (hcl : (Lib.compact zs).length ≤ zs.length) :
    Calls Tryd.prog 62 #[v] w fun e w' => ∃ v', e = .returned v' ∧ w'.ownsRow base 3 1 v' (Lib.compact zs).length ((Lib.compact zs).map I64) ∧ w.grownBy w' v.ownBlock := by
  rcases ho.2 with ⟨rfl, hn⟩ | ⟨g, cap, cur, rfl, hg, hh, hn, hc, hs, ht⟩
  · refine (Tryd.slices_Compact_int_empty none 0 w).mono ?_
    rintro e w' ⟨rfl, rfl⟩
    have : zs = [] := List.eq_nil_of_length_eq_zero hn
    subst this
    exact ⟨_, rfl, World.ownsRow_nil w' base 3 1, ⟨rfl, rfl, rfl, Nat.le_refl _, fun _ _ _ => rfl⟩⟩
  · refine (Tryd.slices_Compact_int g 0 cap zs w (holds_own I64 hh (by simpa using ht)) (by omega) hn).mono ?_
    rintro e w' ⟨rfl, q, rfl⟩
    have e0 : ∀ d : Array Int, putRow I64 (Sort.ahead w q) g 0 d = grow (putRow I64 (Sort.ahead w q) g 0 d) #[] := fun d => by simp
    rw [e0]
    refine ⟨_, rfl, ?_, grownBy_put _ _⟩
    have h := own_put I64 (w := w) (base := base) (g := g) (cap := cap) (q := q) (os := #[]) (cur := cur) (e := 3) (Lib.compact zs ++ List.replicate (zs.length - (Lib.compact zs).length) 0) (Lib.compact zs).length hg hh (by simp; omega) (by simp) hc hs
    rwa [List.take_left] at h

/-- A row of ints that is read: its cells. -/
theorem cells_of_C {w : World} {A : Option Addr} {xs : List Int} (h : Kd.C (Kd.int .i64) w A xs.length xs) (hn : 0 < xs.length) :
    ∃ b off, A = some ⟨b, off, none⟩ ∧ ∀ j, j < xs.length → w.cell? ⟨b, off + j, none⟩ = some (.int .i64 (xs.getD j 0)) := by
  obtain ⟨ad, rfl, hc⟩ := (Kd.reads_of_C (d := (0 : Int)) h).2.2 hn
  obtain ⟨b, off, sp⟩ := ad
  have h0 := hc 0 hn
  have hsp : sp = none := by
    cases sp with
    | none => rfl
    | some s =>
      simp only [Addr.add, if_true, World.cell?] at h0
      split at h0 <;> simp at h0
  subst hsp
  refine ⟨b, off, rfl, fun j hj => ?_⟩
  have := hc j hj
  unfold Addr.add at this
  split at this
  · next hj0 => subst hj0; exact this
  · exact this

theorem clone_C {w : World} {A : Option Addr} {c : Nat} {xs : List Int} (h : Kd.C (Kd.int .i64) w A xs.length xs) (hb : xs.length ≤ 17592186044416) :
    Calls Tryd.prog 60 #[.slice A xs.length c] w fun e w' => ∃ v', e = .returned v' ∧ w'.ownsRow w.heap.size 3 1 v' xs.length (xs.map I64) ∧ (v' = .slice none 0 0 ↔ A = none) ∧ Below w.heap.size w w' := by
  by_cases hn : 0 < xs.length
  · obtain ⟨b, off, rfl, hc⟩ := cells_of_C h hn
    refine (Tryd.slices_Clone_int b off xs.length c xs w (Nat.le_refl _) (by omega) hc).mono ?_
    rintro e w' ⟨v', rfl, ho, hv, hB⟩
    rw [List.take_length] at ho
    exact ⟨v', rfl, ho, by simp [hv], hB⟩
  · have : xs = [] := List.eq_nil_of_length_eq_zero (by omega)
    subst this
    cases A with
    | none =>
      refine (Tryd.slices_Clone_int_nil 0 c w).mono ?_
      rintro e w' ⟨rfl, rfl⟩
      exact ⟨_, rfl, World.ownsRow_nil w' _ 3 1, by simp, Below.refl _ _⟩
    | some a =>
      refine (Tryd.slices_Clone_int_zero a c w).mono ?_
      rintro e w' ⟨v', rfl, ho, hv, hB⟩
      exact ⟨v', rfl, ho, by simp [hv], hB⟩

/-- A literal's row. -/
theorem C_new (W : World) (xs : List Int) (h : xs.length ≤ 9223372036854775807) : Kd.C (Kd.int .i64) (W.alloc (.cells (xs.map I64).toArray 3)) (some ⟨W.heap.size, 0, none⟩) xs.length xs := by
  refine Kd.C_of_reads (d := (0 : Int)) ⟨rfl, h, fun hn => ⟨_, rfl, fun j hj => ?_⟩⟩
  have ea : (⟨W.heap.size, 0, none⟩ : Addr).add j = ⟨W.heap.size, j, none⟩ := by unfold Addr.add; split <;> simp_all
  have hh : (W.alloc (.cells (xs.map I64).toArray 3)).heap[W.heap.size]? = some (.cells (xs.map I64).toArray 3 (0, 0)) := heap_alloc_new W _
  rw [ea]
  simp only [World.cell?, hh]
  simp [hj]
theorem C_new1 (W : World) (xs : List Int) (o : Obj) (h : xs.length ≤ 9223372036854775807) : Kd.C (Kd.int .i64) ((W.alloc (.cells (xs.map I64).toArray 3)).alloc o) (some ⟨W.heap.size, 0, none⟩) xs.length xs := Kd.C_below (C_new W xs h) ((Below.refl _ _).alloc (Nat.le_refl _) _)
theorem C_new2 (W : World) (xs : List Int) (o : Obj) (h : xs.length ≤ 9223372036854775807) : Kd.C (Kd.int .i64) ((W.alloc o).alloc (.cells (xs.map I64).toArray 3)) (some ⟨W.heap.size + 1, 0, none⟩) xs.length xs := by
  have := C_new (W.alloc o) xs h
  rwa [World.size_alloc] at this
theorem C_al {W : World} {A : Option Addr} {xs : List Int} (h : Kd.C (Kd.int .i64) W A xs.length xs) (o : Obj) : Kd.C (Kd.int .i64) (W.alloc o) A xs.length xs := Kd.C_below h ((Below.refl _ _).alloc (Nat.le_refl _) _)
theorem below_a1 {W w' : World} {o : Obj} (h : Below (W.alloc o).heap.size (W.alloc o) w') : Below W.heap.size W w' := ((Below.refl _ W).alloc (Nat.le_refl _) _).trans (h.mono (by simp))
theorem below_a2 {W w' : World} {o p : Obj} (h : Below ((W.alloc o).alloc p).heap.size ((W.alloc o).alloc p) w') : Below W.heap.size W w' := below_a1 (below_a1 h)
theorem below_tt {A B C : World} (h : Below A.heap.size A B) (k : Below B.heap.size B C) : Below A.heap.size A C := h.trans (k.mono h.size)
end Go.Proofs.YthaofmbjkdikbaaDoor.H

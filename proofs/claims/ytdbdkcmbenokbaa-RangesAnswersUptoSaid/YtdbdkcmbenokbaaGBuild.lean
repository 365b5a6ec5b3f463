/- Ranges: rowOf and Build: an index is a pointer to a block that holds the rising row of the entries, each once, in new memory. -/
import Derived.Test.YtdbdkcmbenokbaaGSort
import Derived.Deep.RegionLaw
import Derived.ChangeAlike
import Derived.Laws.EntriesVeiled
namespace Go.Proofs.Ytdbdkcmbenokbaa.G
open Go.RowKit Go.Sort Go.Lib Go.Shelf
set_option linter.unusedVariables false

theorem RdE.below {W W' : World} {A : Option Addr} {l : List En} (h : RdE W A l) (hb : Below W.heap.size W W') : RdE W' A l := fun hn => by
  obtain ⟨ad, h1, h2⟩ := h hn
  exact ⟨ad, h1, fun j u hj => (hb.cell (World.block_lt_of_cell? _ _ (h2 j u hj))).trans (h2 j u hj)⟩
theorem RowV.below {W W' : World} {base : Nat} {v : Value} {l : List En} (h : RowV W base v l) (hb : Below W.heap.size W W') : RowV W' base v l := by
  rcases h with h | ⟨g, cap, h1, h2, h3⟩
  · exact .inl h
  · exact .inr ⟨g, cap, h1, h2, h3.below hb⟩
theorem RowV.lower {W : World} {base b' : Nat} {v : Value} {l : List En} (h : RowV W base v l) (hb : b' ≤ base) : RowV W b' v l := by
  rcases h with h | ⟨g, cap, h1, h2, h3⟩
  · exact .inl h
  · exact .inr ⟨g, cap, h1, by omega, h3⟩
theorem RowV.base {W : World} {base : Nat} {v : Value} {l : List En} (h : RowV W base v l) : ∀ k, v.ownBlock = some k → base ≤ k ∧ k < W.heap.size := by
  rcases h with ⟨_, rfl⟩ | ⟨g, cap, rfl, h2, h3⟩
  · intro k hk; cases hk
  · intro k hk; cases hk; exact ⟨h2, h3.lt⟩
theorem RowV.slice {W : World} {base : Nat} {v : Value} {l : List En} (h : RowV W base v l) : ∃ A c, v = .slice A l.length c ∧ l.length ≤ c := by
  rcases h with ⟨rfl, rfl⟩ | ⟨g, cap, rfl, h2, h3⟩
  · exact ⟨_, _, rfl, Nat.le_refl _⟩
  · obtain ⟨_, _, _, h, _⟩ := h3
    exact ⟨_, _, rfl, by simpa using h⟩
/-- What rowOf has laid by itself: the box of the order, the row that it hands back; and what else stands. -/
structure RMid (w : World) (r0 r1 : Value) (W : World) : Prop where
  b0 : W.heap[w.heap.size]? = some (.cells #[.func (.func 21) #[] #[]] 41 (0, 0))
  b1 : W.heap[w.heap.size + 1]? = some (.cells #[r0, r1] 43 (0, 0))
  B : Below w.heap.size w W
theorem RMid.lt {w W : World} {r0 r1 : Value} (h : RMid w r0 r1 W) : w.heap.size + 1 < W.heap.size := (Array.getElem?_eq_some_iff.1 h.b1).1
theorem RMid.grown {w W W' : World} {r0 r1 : Value} (h : RMid w r0 r1 W) {row : Option Nat} (hg : W.grownBy W' row) (hr : ∀ k, row = some k → w.heap.size + 2 ≤ k) : RMid w r0 r1 W' where
  b0 := (hg.block _ (by have := h.lt; omega) (fun e => by have := hr _ e.symm; omega)).trans h.b0
  b1 := (hg.block _ h.lt (fun e => by have := hr _ e.symm; omega)).trans h.b1
  B := h.B.grown hg (by have := h.lt; omega) (fun k hk => by have := hr k hk; omega)
theorem RMid.drew {w W : World} {r0 r1 : Value} (h : RMid w r0 r1 W) : RMid w r0 r1 W.drew := ⟨h.b0, h.b1, ⟨h.B.os, h.B.tape, h.B.output, h.B.size, h.B.block⟩⟩
theorem RowV.drew {W : World} {base : Nat} {v : Value} {l : List En} (h : RowV W base v l) : RowV W.drew base v l := h
theorem RMid.cells {w W : World} {r0 r1 : Value} (h : RMid w r0 r1 W) : W.cell? ⟨w.heap.size, 0, none⟩ = some (.func (.func 21) #[] #[]) ∧ W.cell? ⟨w.heap.size + 1, 0, none⟩ = some r0 ∧ W.cell? ⟨w.heap.size + 1, 1, none⟩ = some r1 ∧ W.frozen? ⟨w.heap.size + 1, 0, none⟩ = false ∧ W.frozen? ⟨w.heap.size + 1, 1, none⟩ = false ∧ W.shape? (w.heap.size + 1) = some (43, 2) := by
  have h0 := h.b0
  have h1 := h.b1
  exact ⟨by simp [World.cell?, h0], by simp [World.cell?, h1], by simp [World.cell?, h1], by simp [World.frozen?, h1], by simp [World.frozen?, h1], by simp [World.shape?, h1]⟩
theorem RMid.start {w W1 : World} {r0 r1 : Value} (hB : Below ((w.alloc (.cells #[.func (.func 21) #[] #[]] 41)).alloc (.cells #[r0, r1] 43)).heap.size ((w.alloc (.cells #[.func (.func 21) #[] #[]] 41)).alloc (.cells #[r0, r1] 43)) W1) : RMid w r0 r1 W1 where
  b0 := (hB.block _ (by simp; omega)).trans ((Below.heap_alloc _ _ _ (by simp)).trans (World.alloc_heap_new w _))
  b1 := (hB.block _ (by simp)).trans (by have := World.alloc_heap_new (w.alloc (.cells #[.func (.func 21) #[] #[]] 41)) (.cells #[r0, r1] 43); rwa [World.size_alloc] at this)
  B := (((Below.refl _ w).alloc (Nat.le_refl _) _).alloc (by simp) _).trans (hB.mono (by simp; omega))
theorem RMid.done {w W : World} {r0 r1 v : Value} {l : List En} (h : RMid w r0 r1 W) (hv : RowV W (w.heap.size + 2) v l) (f : Value) : RowV ((W.setCell ⟨w.heap.size + 1, 0, none⟩ v).setCell ⟨w.heap.size + 1, 1, none⟩ f) w.heap.size v l ∧ Below w.heap.size w ((W.setCell ⟨w.heap.size + 1, 0, none⟩ v).setCell ⟨w.heap.size + 1, 1, none⟩ f) := by
  refine ⟨?_, (h.B.setCell (by simp) _).setCell (by simp) _⟩
  rcases hv with hv | ⟨g, cap, h1, h2, h3⟩
  · exact .inl hv
  · exact .inr ⟨g, cap, h1, by omega, h3.block ((Below.heap_setCell _ _ _ _ (by simp; omega)).trans (Below.heap_setCell _ _ _ _ (by simp; omega)))⟩
theorem sortV_calls (v : Value) (l : List En) (base : Nat) (w : World) (hv : RowV w base v l) (hlen : l.length ≤ 1073741824) :
    Calls Try.prog 28 #[v, .func (.func 21) #[] #[]] w fun e w' => e = .returned (.tuple #[]) ∧ RowV w' base v (sortE l) ∧ w.grownBy w' v.ownBlock := by
  rcases hv with ⟨rfl, rfl⟩ | ⟨g, cap, rfl, h2, h3⟩
  · refine (sortE_none _ _ _ _).mono ?_
    rintro e w' ⟨rfl, rfl⟩
    exact ⟨rfl, .inl ⟨by simp [sortE], rfl⟩, ⟨rfl, rfl, rfl, Nat.le_refl _, fun _ _ _ => rfl⟩⟩
  · refine (sortE_calls g cap l w h3 hlen).mono ?_
    rintro e w' ⟨rfl, h4, h5⟩
    exact ⟨rfl, .inr ⟨g, cap, by rw [sortE_len], h2, h4⟩, h5⟩
theorem compactV_calls (v : Value) (l : List En) (base Bf : Nat) (w : World) (hv : RowV w base v l) (hlen : l.length ≤ 1073741824) (hB : w.cell? ⟨Bf, 0, none⟩ = some (.func (.func 21) #[] #[])) (hne : Bf < base) :
    Calls Try.prog 29 #[v, .func (.func 30) #[] #[.pointer (some ⟨Bf, 0, none⟩)]] w fun e w' => ∃ v', e = .returned v' ∧ RowV w' base v' (compact l) ∧ w.grownBy w' v.ownBlock := by
  rcases hv with ⟨rfl, rfl⟩ | ⟨g, cap, rfl, h2, h3⟩
  · refine (compact_none _ _ _ _).mono ?_
    rintro e w' ⟨rfl, rfl⟩
    exact ⟨_, rfl, .inl ⟨by simp [compact, compactUpTo], rfl⟩, ⟨rfl, rfl, rfl, Nat.le_refl _, fun _ _ _ => rfl⟩⟩
  · refine (compact_calls g cap Bf l w h3 hlen hB (by omega)).mono ?_
    rintro e w' ⟨rfl, h4, h5⟩
    exact ⟨_, rfl, .inr ⟨g, cap, rfl, h2, h4⟩, h5⟩

set_option maxHeartbeats 2000000 in
theorem rowOf_calls (A : Option Addr) (c : Nat) (l : List En) (w : World) (hc : RdE w A l) (hlen : l.length ≤ 1073741824) :
    Calls Try.prog 20 #[.slice A l.length c, .func (.func 21) #[] #[]] w fun e w' => ∃ v, e = .returned (.agg #[v, .func (.func 21) #[] #[]]) ∧ RowV w' w.heap.size v (norm l) ∧ Below w.heap.size w w' := by
  have HC := Lib.hid hc
  clear hc
  go_enter Try.func20, Try.ntmps20
  go_wp2_with fail
  refine (cloneE_calls A _ c l _ rfl hlen (HC.out.below (((Below.refl _ w).alloc (Nat.le_refl _) _).alloc (by simp) _))).mono ?_
  rintro e w1 ⟨v, rfl, hv, hB⟩
  have hM := RMid.start hB
  have hv1 : RowV w1 (w.heap.size + 2) v l := hv.lower (by simp)
  clear hv hB
  obtain ⟨k0, -⟩ := hM.cells
  have HM := Lib.hid hM
  have HV := Lib.hid hv1
  clear hM hv1
  go_wp2_with fail
  refine (sortV_calls v l _ _ HV.out hlen).mono ?_
  rintro e w2 ⟨rfl, hv2, hg2⟩
  have hM := HM.out.grown hg2 (fun k hk => (HV.out.base k hk).1)
  clear k0 hg2 HV HM
  have CC := compactV_calls v (sortE l) (w.heap.size + 2) w.heap.size w2.drew hv2.drew (by rw [sortE_len]; exact hlen) hM.drew.cells.1 (by omega)
  obtain ⟨k0, k1, k2, k3, k4, k5⟩ := hM.cells
  have HM := Lib.hid hM
  have HV := Lib.hid hv2
  clear hM hv2
  go_wp2_with fail
  have eg : ∀ args w, (callFunc 29 args).run Try.prog w = .ok (.enter 29 args) w := enters_of Try.func29 (by kernel_rfl) rfl
  go_region_law (first
    | (go_simp; refine CC.mono ?_; rintro e W1 ⟨v3, rfl, hv3, hg3⟩; have hM3 := HM.out.drew.grown hg3 (fun k hk => (HV.out.base k hk).1); obtain ⟨m0, m1, m2, m3, m4, m5⟩ := hM3.cells; have HM3 := Lib.hid hM3; clear hM3; obtain ⟨A3, c3, rfl, hc3⟩ := hv3.slice; clear hc3; dsimp only))
  all_goals
    go_wp2_with fail
    exact bodyPost_ret (v := .agg #[.slice A3 (compact (sortE l)).length c3, .func (.func 21) #[] #[]]) (by simp [results, Try.results20, go_sem, m1, m2]) rfl ⟨_, rfl, HM3.out.done hv3 _⟩
/-- The index that lies in block x: its row of entries. -/
def Idx (W : World) (base x : Nat) (l : List En) : Prop := base ≤ x ∧ ∃ A c, W.heap[x]? = some (.cells #[.slice A l.length c, .func (.func 21) #[] #[]] 47 (0, 0)) ∧ l.length ≤ c ∧ RowV W base (.slice A l.length c) l
theorem Idx.lt {W : World} {base x : Nat} {l : List En} (h : Idx W base x l) : x < W.heap.size := by
  obtain ⟨_, A, c, h1, _⟩ := h
  exact (Array.getElem?_eq_some_iff.1 h1).1
theorem Idx.below {W W' : World} {base x : Nat} {l : List En} (h : Idx W base x l) (hb : Below W.heap.size W W') : Idx W' base x l := by
  have hl := h.lt
  obtain ⟨h0, A, c, h1, h2, h3⟩ := h
  exact ⟨h0, A, c, (hb.block _ hl).trans h1, h2, h3.below hb⟩
/-- Writes below what the index is made of leave it. -/
theorem Idx.grown {W W' : World} {base x : Nat} {l : List En} (h : Idx W base x l) {row : Option Nat} (hg : W.grownBy W' row) (hr : ∀ k, row = some k → k < base) : Idx W' base x l := by
  have hl := h.lt
  obtain ⟨h0, A, c, h1, h2, h3⟩ := h
  refine ⟨h0, A, c, (hg.block _ hl (fun e => by have := hr _ e.symm; omega)).trans h1, h2, ?_⟩
  rcases h3 with h | ⟨g, cap, g1, g2, g3⟩
  · exact .inl h
  · exact .inr ⟨g, cap, g1, g2, g3.block (hg.block _ g3.lt (fun e => by have := hr _ e.symm; omega))⟩
set_option maxHeartbeats 1000000 in
theorem build_calls (A : Option Addr) (c : Nat) (l : List En) (w : World) (hc : RdE w A l) (hlen : l.length ≤ 1073741824) :
    Calls Try.prog 7 #[.slice A l.length c] w fun e w' => ∃ x, e = .returned (.pointer (some ⟨x, 0, none⟩)) ∧ Idx w' w.heap.size x (norm l) ∧ Below w.heap.size w w' := by
  have CC := rowOf_calls A c l w hc hlen
  clear hc
  go_enter Try.func7, Try.ntmps7
  go_wp2_with (go_at_call 20; refine CC.mono ?_; rintro e w1 ⟨v, rfl, hv, hB⟩; obtain ⟨A3, c3, rfl, hc3⟩ := hv.slice)
  have hz := hB.size
  go_ret
  refine ⟨w1.heap.size, rfl, ⟨hz, A3, c3, World.alloc_heap_new _ _, hc3, hv.below ((Below.refl _ _).alloc (Nat.le_refl _) _)⟩, hB.alloc hz _⟩
end Go.Proofs.Ytdbdkcmbenokbaa.G

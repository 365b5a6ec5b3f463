/- stats.Word: the count of the first entry whose hash is the word's, nought where there is none. -/
import Derived.Shelf.SlicesQ.IndexFunc
import Derived.Test.YtihanpdfnpgnfaaSHash
import Derived.Test.YtihanpdfnpgnfaaShelf
import Derived.Test.YtihanpdfnpgnfaaPAllx0
import Derived.Test.YtihanpdfnpgnfaaWRepsOne
namespace Go.Proofs.Ytihanpdfnpgnfaa.H
open Go.RowKit Go.Sort Go.Shelf Go.Lib Go.Proofs.YtihanpdfnpgnfaaW.PrintWords Go.Proofs.Ytihanpdfnpgnfaa.PAll
set_option linter.unusedVariables false

/-- The count that stands with a hash. -/
def wordS (es : List S41) (h : Int) : Int := match es.find? (fun e => decide (e.f1 = h)) with | some e => e.f0 | none => 0
def encW (x : S41) : List Value := [.int .i64 x.f0, .int .i64 x.f1]
instance : Inhabited S41 := ⟨z41⟩
theorem es_of_C {w : World} {A : Option Addr} {xs : List S41} (h : Kd.C k41 w A xs.length xs) (hn : 0 < xs.length) :
    ∃ b off, A = some ⟨b, off, none⟩ ∧ b < w.heap.size ∧ ∀ j, j < xs.length → w.cell? ⟨b, off + j * 2, none⟩ = some (.int .i64 xs[j]!.f0) ∧ w.cell? ⟨b, off + j * 2 + 1, none⟩ = some (.int .i64 xs[j]!.f1) := by
  obtain ⟨ad, rfl, h00, -⟩ := at_T41 h 0 (Int.le_refl _) (by omega)
  obtain ⟨b, off, sp⟩ := ad
  have hsp : sp = none := by
    cases sp with
    | none => rfl
    | some s =>
      simp only [Int.toNat_zero, Nat.zero_mul, Addr.add, if_true, World.cell?] at h00
      split at h00 <;> simp at h00
  subst hsp
  have hb : b < w.heap.size := World.block_lt_of_cell? w _ h00
  refine ⟨b, off, rfl, hb, fun j hj => ?_⟩
  obtain ⟨ad, e, h1, h2⟩ := at_T41 h (j : Int) (by omega) (by omega)
  cases e
  have ea : ((⟨b, off, none⟩ : Addr).add ((j : Int).toNat * 2)) = ⟨b, off + j * 2, none⟩ := by unfold Addr.add; split <;> simp_all
  rw [ea] at h1 h2
  have er : rd_T41 xs (j : Int) = xs[j]! := by unfold rd_T41; simp [hj]
  rw [er] at h1 h2
  exact ⟨h1, h2⟩

/-- The closure: has the entry the hash? -/
theorem pred_word (h : Int) (B : Nat) (w : World) (hB : B < w.heap.size) (hcell : w.cell? ⟨B, 0, none⟩ = some (.int .i64 h)) :
    PredBelow Try.prog 29 #[.pointer (some ⟨B, 0, none⟩)] (fun x => .agg (encW x).toArray) (fun x => decide (x.f1 = h)) w := fun W x hb => by
  have hc : W.cell? ⟨B, 0, none⟩ = some (.int .i64 h) := (hb.cell (p := ⟨B, 0, none⟩) hB).trans hcell
  have hBW : B < W.heap.size := Nat.lt_of_lt_of_le hB hb.size
  have hne : B ≠ W.heap.size := by omega
  show Calls Try.prog 29 #[.agg #[.int .i64 x.f0, .int .i64 x.f1], .pointer (some ⟨B, 0, none⟩)] W _
  go_enter Try.func29, Try.ntmps29
  go_wp2
  all_goals (go_ret; exact ⟨by first | rfl | simp_all, hb.alloc hb.size _⟩)

/-- slices.IndexFunc on no entry. -/
theorem index_none (A : Option Addr) (c : Nat) (fv : Value) (w : World) :
    Calls Try.prog 28 #[.slice A 0 c, fv] w fun e w' => e = .returned (.int .i64 (-1)) ∧ w' = w := by
  go_enter Try.func28, Try.ntmps28
  go_wp2
  go_loopg [5, 8] 0 (fun gg _ s8 wr => s8 = .int .i64 0 ∧ wr = w)
  case atStart => exact ⟨rfl, rfl⟩
  case round =>
    obtain ⟨rfl, rfl⟩ := hrel
    go_wp2
    go_ret
    exact ⟨rfl, rfl⟩
theorem idx_find (es : List S41) (p : S41 → Bool) : (Lib.idxBy (fun _ y => p y) es default = -1 ∧ es.find? p = none) ∨ ∃ k, k < es.length ∧ Lib.idxBy (fun _ y => p y) es default = (k : Int) ∧ es.find? p = some es[k]! := by
  have h : ∀ (es : List S41) (i : Nat), (Lib.idxByFrom (fun _ y => p y) default es i = -1 ∧ es.find? p = none) ∨ ∃ k, k < es.length ∧ Lib.idxByFrom (fun _ y => p y) default es i = ((i + k : Nat) : Int) ∧ es.find? p = some es[k]! := by
    intro es
    induction es with
    | nil => intro i; exact Or.inl ⟨rfl, rfl⟩
    | cons x r ih =>
      intro i
      unfold Lib.idxByFrom
      rw [List.find?_cons]
      by_cases hx : p x = true
      · rw [if_pos hx, hx]
        exact Or.inr ⟨0, by simp, rfl, rfl⟩
      · have hx' : p x = false := by simpa using hx
        rw [if_neg hx, hx']
        rcases ih (i + 1) with ⟨h1, h2⟩ | ⟨k, hk, h1, h2⟩
        · exact Or.inl ⟨h1, h2⟩
        · refine Or.inr ⟨k + 1, by simp; omega, by rw [h1]; congr 1; omega, ?_⟩
          rw [h2]; simp [hk]
  rcases h es 0 with h | ⟨k, hk, h1, h2⟩
  · exact Or.inl h
  · exact Or.inr ⟨k, hk, by rw [Nat.zero_add] at h1; exact h1, h2⟩

set_option maxHeartbeats 1000000 in
theorem word_calls (cnt : Int) (Ab : Option Addr) (nb cb : Nat) (Ae : Option Addr) (ce : Nat) (es : List S41) (s : ByteArray) (w : World) (hCe : Kd.C k41 w Ae es.length es) (hce : es.length ≤ ce) (hs : s.size ≤ 1048576) (hn : es.length ≤ 17592186044416) :
    Calls Try.prog 16 #[.agg #[.int .i64 cnt, .slice Ab nb cb, .slice Ae es.length ce], .string s] w fun e w' => e = .returned (.int .i64 (wordS es (hashOf s))) ∧ Below w.heap.size w w' := by
  have HH := fun w => hash_calls s (by omega) w
  generalize hashOf s = h at HH ⊢
  go_enter Try.func16, Try.ntmps16
  go_wp2_with fail
  refine (HH _).mono ?_
  clear HH
  rintro e w1 ⟨rfl, hB⟩
  have hz1 : w.heap.size + 1 ≤ w1.heap.size := by have := hB.size; rwa [World.size_alloc] at this
  have hB1 : Below w.heap.size w w1 := ((Below.refl _ w).alloc (Nat.le_refl _) _).trans (hB.mono (by simp))
  have e2 : w1.heap[w.heap.size]? = some (.cells #[.int .i64 cnt, .slice Ab nb cb, .slice Ae es.length ce] 27 (0, 0)) := (hB.block _ (by simp)).trans (World.alloc_heap_new w _)
  have q2 : ∀ o, (w1.alloc o).cell? ⟨w.heap.size, 2, none⟩ = some (.slice Ae es.length ce) := fun o => by simp [World.cell?, (Below.heap_alloc w1 o w.heap.size (by omega)).trans e2]
  clear hB e2
  go_wp2_with fail
  have hC2 : Kd.C k41 (w1.alloc (.cells #[.int .i64 h] 3)) Ae es.length es := Kd.C_alloc (Kd.C_below hCe hB1) _
  have hcell : (w1.alloc (.cells #[.int .i64 h] 3)).cell? ⟨w1.heap.size, 0, none⟩ = some (.int .i64 h) := by simp
  have q3 : (w1.alloc (.cells #[.int .i64 h] 3)).cell? ⟨w.heap.size, 2, none⟩ = some (.slice Ae es.length ce) := q2 _
  have hB2 : Below w.heap.size w (w1.alloc (.cells #[.int .i64 h] 3)) := hB1.alloc (by omega) _
  have hlt : w1.heap.size < (w1.alloc (.cells #[.int .i64 h] 3)).heap.size := by simp
  generalize w1.heap.size = B at hcell hlt hz1 ⊢
  generalize w1.alloc (.cells #[.int .i64 h] 3) = w2 at hC2 hcell q3 hB2 hlt ⊢
  clear q2 hCe hB1
  have hz2 := hB2.size
  by_cases h0 : 0 < es.length
  · obtain ⟨b, off, rfl, hb, hc⟩ := es_of_C hC2 h0
    have eg : ∀ args w, (callFunc 29 args).run Try.prog w = .ok (.enter 29 args) w := enters_of Try.func29 (by kernel_rfl) rfl
    have hcon := AnyQ.slices_IndexFunc Try.indexQ 2 Try.isAgg41 Try.sizeOf41 encW (fun _ => rfl) (fun x => decide (x.f1 = h)) 29 #[.pointer (some ⟨B, 0, none⟩)] eg b off es.length ce es w2
      (pred_word h B w2 hlt hcell) (Nat.le_refl _) (by omega) hb (fun j hj i v hi => by
        have h1 := hc j hj
        generalize es[j]! = y at hi h1
        match i, hi with
        | 0, hi => simp [encW] at hi; rw [← hi]; exact h1.1
        | 1, hi => simp [encW] at hi; rw [← hi]; exact h1.2
        | i + 2, hi => simp [encW] at hi)
    change Calls Try.prog 28 _ _ _ at hcon
    refine hcon.mono ?_
    clear hcon hc
    rintro e w3 ⟨rfl, hb3⟩
    rw [List.take_length]
    replace q3 := (hb3.cell (p := ⟨w.heap.size, 2, none⟩) (by show w.heap.size < _; omega)).trans q3
    have hC3 := Kd.C_below hC2 hb3
    have hB3 := hB2.trans (hb3.mono hz2)
    clear hC2 hb3 hB2
    rcases idx_find es (fun x => decide (x.f1 = h)) with ⟨e1, e2⟩ | ⟨k, hk, e1, e2⟩
    · rw [e1]
      have hw : wordS es h = 0 := by unfold wordS; rw [e2]
      clear e1 e2
      go_wp2_with fail
      go_ret
      exact ⟨by rw [hw]; rfl, hB3⟩
    · rw [e1]
      have hw : wordS es h = es[k]!.f0 := by unfold wordS; rw [e2]
      obtain ⟨ad, ea, hx, -⟩ := at_T41 hC3 (k : Int) (by omega) (by omega)
      cases ea
      have er : rd_T41 es (k : Int) = es[k]! := by unfold rd_T41; simp [hk]
      rw [er, Int.toNat_natCast, Addr.add_lit] at hx
      have p0 : decide ((k : Int) < 0) = false := decide_eq_false (by omega)
      have p1 := eq_true (show (0 : Int) ≤ (k : Int) by omega)
      have p2 := eq_true (show (k : Int) < (es.length : Int) by omega)
      clear e1 e2 hk er
      generalize es[k]!.f0 = r at hx hw
      go_wp2_with fail
      go_ret
      exact ⟨by rw [hw]; rfl, hB3⟩
  · have e0 : es = [] := List.eq_nil_of_length_eq_zero (by omega)
    subst e0
    refine (index_none Ae ce _ _).mono ?_
    rintro e w3 ⟨rfl, rfl⟩
    go_wp2_with fail
    go_ret
    exact ⟨rfl, hB2⟩
end Go.Proofs.Ytihanpdfnpgnfaa.H

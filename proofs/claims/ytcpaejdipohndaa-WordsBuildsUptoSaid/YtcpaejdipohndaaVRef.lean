/- Words: lodestarref14: Find and Any of a list of rows. -/
import Derived.Test.YtcpaejdipohndaaVOrder
namespace Go.Proofs.Ytcpaejdipohndaa.V
open Go.RowKit Go.Sort Go.Shelf Go.Lib Go.Maps Go.Proofs.YtcpaejdipohndaaW.PrintWords Go.Proofs.Ytcpaejdipohndaa.PAll Go.Proofs.Ytcpaejdipohndaa.R Go.Proofs.Ytcpaejdipohndaa.H
set_option linter.unusedVariables false
abbrev Rw := S63
/-- The ids of the rows that are meant, as a set. -/
def selR (q : Rw → Bool) (l : List Rw) : List Int := l.foldl (fun o r => if q r then insL o r.f0 else o) []
theorem selR_snoc (q : Rw → Bool) (l : List Rw) (r : Rw) : selR q (l ++ [r]) = if q r then insL (selR q l) r.f0 else selR q l := by unfold selR; rw [List.foldl_append]; rfl
theorem selR_rising (q : Rw → Bool) (l : List Rw) : (selR q l).Pairwise (· < ·) := by
  induction l using snocInd with
  | h0 => exact List.Pairwise.nil
  | h1 l r ih =>
    rw [selR_snoc]
    split
    · exact insL_rising ih _
    · exact ih
theorem selR_le (q : Rw → Bool) (l : List Rw) : (selR q l).length ≤ l.length := by
  induction l using snocInd with
  | h0 => exact Nat.le_refl _
  | h1 l r ih =>
    rw [selR_snoc, List.length_append]
    split
    · have := insL_le (selR q l) r.f0; simp; omega
    · simp; omega
theorem mem_selR {q : Rw → Bool} {l : List Rw} {x : Int} : x ∈ selR q l ↔ ∃ r ∈ l, q r = true ∧ r.f0 = x := by
  induction l using snocInd with
  | h0 => simp [selR]
  | h1 l r ih =>
    rw [selR_snoc]
    split
    · next h =>
      rw [mem_insL, ih]
      constructor
      · rintro (rfl | ⟨s, hs, h1, h2⟩)
        · exact ⟨r, by simp, h, rfl⟩
        · exact ⟨s, by simp [hs], h1, h2⟩
      · rintro ⟨s, hs, h1, h2⟩
        rcases List.mem_append.1 hs with hs | hs
        · exact .inr ⟨s, hs, h1, h2⟩
        · rw [List.mem_singleton] at hs; subst hs; exact .inl h2.symm
    · next h =>
      rw [ih]
      constructor
      · rintro ⟨s, hs, h1, h2⟩; exact ⟨s, by simp [hs], h1, h2⟩
      · rintro ⟨s, hs, h1, h2⟩
        rcases List.mem_append.1 hs with hs | hs
        · exact ⟨s, hs, h1, h2⟩
        · rw [List.mem_singleton] at hs; subst hs; exact absurd h1 h
/-- A row that has the value. -/
def qF (v : Va) (r : Rw) : Bool := r.f2 && decide (cmpV r.f1 v = 0)
theorem rws_of_C {w : World} {A : Option Addr} {xs : List Rw} (h : Kd.C k63 w A xs.length xs) (hn : 0 < xs.length) :
    ∃ b off, A = some ⟨b, off, none⟩ ∧ b < w.heap.size ∧ ∀ j (hj : j < xs.length), w.cell? ⟨b, off + j * 5, none⟩ = some (.int .i64 xs[j].f0) ∧ w.cell? ⟨b, off + j * 5 + 1, none⟩ = some (.int .i64 xs[j].f1.f0) ∧ w.cell? ⟨b, off + j * 5 + 2, none⟩ = some (.int .i64 xs[j].f1.f1) ∧ w.cell? ⟨b, off + j * 5 + 3, none⟩ = some (.string xs[j].f1.f2) ∧ w.cell? ⟨b, off + j * 5 + 4, none⟩ = some (.bool xs[j].f2) := by
  obtain ⟨ad, rfl, h00, -⟩ := at_T63 h 0 (Int.le_refl _) (by omega)
  obtain ⟨b, off, sp⟩ := ad
  have hsp : sp = none := by
    cases sp with
    | none => rfl
    | some s =>
      simp only [Int.toNat_zero, Nat.zero_mul, Addr.add, if_true, World.cell?] at h00
      split at h00 <;> simp at h00
  subst hsp
  have hb : b < w.heap.size := World.block_lt_of_cell? w _ h00
  refine ⟨b, off, rfl, hb, fun j hj => ?_⟩
  obtain ⟨ad, e, h1, h2, h3, h4, h5⟩ := at_T63 h (j : Int) (by omega) (by omega)
  cases e
  have ea : ((⟨b, off, none⟩ : Addr).add ((j : Int).toNat * 5)) = ⟨b, off + j * 5, none⟩ := by unfold Addr.add; split <;> simp_all
  rw [ea] at h1 h2 h3 h4 h5
  have er : rd_T63 xs (j : Int) = xs[j] := by unfold rd_T63; simp [hj]
  rw [er] at h1 h2 h3 h4 h5
  exact ⟨h1, h2, h3, h4, h5⟩
set_option maxRecDepth 100000 in
set_option maxHeartbeats 1000000 in
theorem refAny_calls (A : Option Addr) (c : Nat) (l : List Rw) (w : World) (hC : Kd.C k63 w A l.length l) (hl : l.length ≤ 1048576) :
    Calls Try.prog 14 #[.slice A l.length c] w fun e w' => ∃ u, e = .returned u ∧ Kd.R (Kd.int .i64) 3 w' w.heap.size (fun _ => True) u (selR (fun r : Rw => r.f2) l) ∧ Below w.heap.size w w' := by
  have HC := Lib.hid hC
  clear hC
  go_enter Try.func14, Try.ntmps14
  go_wp2_with fail
  go_loopw [3, 4] (fun rx s wr => ∃ (rv : Value) (i : Nat), rv = rx ∧ i ≤ l.length ∧ s = .int .i64 i ∧ Kd.R (Kd.int .i64) 3 wr w.heap.size (fun _ => True) rv (selR (fun r : Rw => r.f2) (l.take i)) ∧ Below w.heap.size w wr) (fun _ s _ => l.length - (intOf s).toNat)
  case atStart => exact ⟨_, 0, rfl, Nat.zero_le _, rfl, Kd.R_nil _ _ _ _ _, Below.refl _ _⟩
  case round =>
    obtain ⟨rv, i, rfl, hi, rfl, hR, hB⟩ := hrel
    have HR := Lib.hid hR
    have HB := Lib.hid hB
    by_cases hlt : i < l.length
    · have hlt' : decide ((i : Int) < (l.length : Int)) = true := decide_eq_true (by omega)
      obtain ⟨b0, o0, rfl, hbl, hcs0⟩ := rws_of_C HC.out (by omega)
      obtain ⟨x0, x1, x2, x3, x4⟩ := hcs0 i hlt
      have HT : Hid (selR (fun r : Rw => r.f2) (l.take (i + 1)) = if (fun r : Rw => r.f2) l[i] then insL (selR (fun r : Rw => r.f2) (l.take i)) l[i].f0 else selR (fun r : Rw => r.f2) (l.take i)) := Lib.hid (by rw [List.take_succ_eq_append_getElem hlt, selR_snoc])
      have hri := selR_rising (fun r : Rw => r.f2) (l.take i)
      have hol : (selR (fun r : Rw => r.f2) (l.take i)).length ≤ 1048576 := by have := selR_le (fun r : Rw => r.f2) (l.take i); rw [List.length_take] at this; omega
      have hBr := HB.out
      have d0 := (hBr.cell (p := ⟨b0, o0 + i * 5, none⟩) hbl).trans x0
      have d1 := (hBr.cell (p := ⟨b0, o0 + i * 5 + 1, none⟩) hbl).trans x1
      have d2 := (hBr.cell (p := ⟨b0, o0 + i * 5 + 2, none⟩) hbl).trans x2
      have d3 := (hBr.cell (p := ⟨b0, o0 + i * 5 + 3, none⟩) hbl).trans x3
      have d4 := (hBr.cell (p := ⟨b0, o0 + i * 5 + 4, none⟩) hbl).trans x4
      have p1 := eq_true (show (0 : Int) ≤ (i : Int) by omega)
      have p2 := eq_true (show (i : Int) < (l.length : Int) by omega)
      have p3 : (i < l.length) = True := eq_true hlt
      clear hcs0 x0 x1 x2 x3 x4 hB
      generalize l[i] = r at *
      generalize selR (fun r : Rw => r.f2) (l.take i) = o at *
      obtain ⟨r0, ⟨r1, r2, r3⟩, r4⟩ := r
      dsimp only at d0 d1 d2 d3 d4
      cases r4 with
      | true =>
        clear hBr
        go_wp2_with (go_at_call 28; refine (put_calls (fun _ => True) rv o r0 w _ HB.out HR.out hri (by omega)).mono ?_; rintro e w3 ⟨u3, rfl, hR3, hB3, -⟩; have HR3 := Lib.hid (Kd.R_mono hR3 (fun _ _ => trivial)); have HB3 := Lib.hid hB3; clear hR3 hB3)
        go_roundw
        case rel => exact ⟨_, i + 1, rfl, by omega, by go_num, by rw [HT.out]; exact HR3.out, HB3.out⟩
        case measure => simp [intOf]; omega
      | false =>
        clear hBr
        go_wp2_with fail
        go_roundw
        case rel => exact ⟨_, i + 1, rfl, by omega, by go_num, by rw [HT.out]; exact HR.out, HB.out⟩
        case measure => simp [intOf]; omega
    · have hlt' : decide ((i : Int) < (l.length : Int)) = false := decide_eq_false (by omega)
      have hil : i = l.length := by omega
      subst hil
      rw [List.take_length] at HR
      clear hR hB
      go_wp2_with fail
      go_ret
      exact ⟨_, rfl, HR.out, HB.out⟩
set_option maxRecDepth 100000 in
set_option maxHeartbeats 1000000 in
theorem refFind_calls (A : Option Addr) (c : Nat) (l : List Rw) (v : Va) (w : World) (hC : Kd.C k63 w A l.length l) (hl : l.length ≤ 1048576) :
    Calls Try.prog 12 #[.slice A l.length c, .agg #[.int .i64 v.f0, .int .i64 v.f1, .string v.f2]] w fun e w' => ∃ u, e = .returned u ∧ Kd.R (Kd.int .i64) 3 w' w.heap.size (fun _ => True) u (selR (qF v) l) ∧ Below w.heap.size w w' := by
  have HC := Lib.hid hC
  clear hC
  have hb0 : Below w.heap.size w (w.alloc (.cells #[.int .i64 v.f0, .int .i64 v.f1, .string v.f2] 24)) := (Below.refl _ w).alloc (Nat.le_refl _) _
  have hv0 := World.alloc_heap_new w (.cells #[.int .i64 v.f0, .int .i64 v.f1, .string v.f2] 24)
  go_enter Try.func12, Try.ntmps12
  go_wp2_with fail
  generalize hw1 : w.alloc (.cells #[.int .i64 v.f0, .int .i64 v.f1, .string v.f2] 24) = w1 at *
  have hz1 : w1.heap.size = w.heap.size + 1 := by rw [← hw1]; simp
  clear hw1
  go_loopw [5, 6] (fun rx s wr => ∃ (rv : Value) (i : Nat), rv = rx ∧ i ≤ l.length ∧ s = .int .i64 i ∧ Kd.R (Kd.int .i64) 3 wr w1.heap.size (fun _ => True) rv (selR (qF v) (l.take i)) ∧ Below w1.heap.size w1 wr) (fun _ s _ => l.length - (intOf s).toNat)
  case atStart => exact ⟨_, 0, rfl, Nat.zero_le _, rfl, Kd.R_nil _ _ _ _ _, Below.refl _ _⟩
  case round =>
    obtain ⟨rv, i, rfl, hi, rfl, hR, hB⟩ := hrel
    have HR := Lib.hid hR
    have HB := Lib.hid hB
    by_cases hlt : i < l.length
    · have hlt' : decide ((i : Int) < (l.length : Int)) = true := decide_eq_true (by omega)
      obtain ⟨b0, o0, rfl, hbl, hcs0⟩ := rws_of_C HC.out (by omega)
      obtain ⟨x0, x1, x2, x3, x4⟩ := hcs0 i hlt
      have HT : Hid (selR (qF v) (l.take (i + 1)) = if (qF v) l[i] then insL (selR (qF v) (l.take i)) l[i].f0 else selR (qF v) (l.take i)) := Lib.hid (by rw [List.take_succ_eq_append_getElem hlt, selR_snoc])
      have hri := selR_rising (qF v) (l.take i)
      have hol : (selR (qF v) (l.take i)).length ≤ 1048576 := by have := selR_le (qF v) (l.take i); rw [List.length_take] at this; omega
      have hBr := (hb0.trans (HB.out.mono hb0.size))
      have d0 := (hBr.cell (p := ⟨b0, o0 + i * 5, none⟩) hbl).trans x0
      have d1 := (hBr.cell (p := ⟨b0, o0 + i * 5 + 1, none⟩) hbl).trans x1
      have d2 := (hBr.cell (p := ⟨b0, o0 + i * 5 + 2, none⟩) hbl).trans x2
      have d3 := (hBr.cell (p := ⟨b0, o0 + i * 5 + 3, none⟩) hbl).trans x3
      have d4 := (hBr.cell (p := ⟨b0, o0 + i * 5 + 4, none⟩) hbl).trans x4
      have hvr := (HB.out.block w.heap.size (by omega)).trans hv0
      have v0 : wr.cell? ⟨w.heap.size, 0, none⟩ = some (.int .i64 v.f0) := cell_of_blk hvr (j := 0) rfl
      have v1 : wr.cell? ⟨w.heap.size, 1, none⟩ = some (.int .i64 v.f1) := cell_of_blk hvr (j := 1) rfl
      have v2 : wr.cell? ⟨w.heap.size, 2, none⟩ = some (.string v.f2) := cell_of_blk hvr (j := 2) rfl
      clear hvr
      have p1 := eq_true (show (0 : Int) ≤ (i : Int) by omega)
      have p2 := eq_true (show (i : Int) < (l.length : Int) by omega)
      have p3 : (i < l.length) = True := eq_true hlt
      clear hcs0 x0 x1 x2 x3 x4 hB
      generalize l[i] = r at *
      generalize selR (qF v) (l.take i) = o at *
      obtain ⟨r0, ⟨r1, r2, r3⟩, r4⟩ := r
      dsimp only at d0 d1 d2 d3 d4
      have cc := fun W' => cmp5_calls ⟨r1, r2, r3⟩ v W'
      obtain ⟨z, hz⟩ : ∃ z, z = cmpV ⟨r1, r2, r3⟩ v := ⟨_, rfl⟩
      have hQ : qF v ⟨r0, ⟨r1, r2, r3⟩, r4⟩ = (r4 && decide (z = 0)) := by rw [hz]; rfl
      dsimp only at cc
      rw [← hz] at cc
      rw [hQ] at HT
      clear hz hQ
      clear hBr hR
      cases r4 with
      | true =>
        by_cases hq : z = 0
        · have hq1 : decide (z = 0) = true := decide_eq_true hq
          have hq2 : (z == 0) = true := by simp [hq]
          go_upto_region 5 with (fail)
          refine still_tail 12 (by kernel_rfl) (by kernel_rfl) ?_
          simp only [List.take_succ_cons, List.take_zero, List.drop_succ_cons, List.drop_zero]
          still_step
          still_step
          still_step
          still_step
          still_step
          still_step
          still_step
          still_step
          still_step
          still_step
          still_step
          still_step
          refine wpStill_nil ?_
          go_wp2_with (go_at_call 20; refine (cc _).mono ?_; rintro e w4 ⟨rfl, hB4⟩; have e0 := pw_cell_below hB4 (show wr.drew.cell? _ = _ from d0); have HB4 := Lib.hid hB4; clear hB4)
          have hW4 := (below_drew (Below.refl wr.heap.size wr)).trans HB4.out
          refine (put_calls (fun _ => True) rv o r0 w1 w4 (HB.out.trans (hW4.mono HB.out.size)) (Kd.R_below HR.out hW4) hri (by omega)).mono ?_
          rintro e w5 ⟨u5, rfl, hR5, hB5, -⟩
          have HR5 := Lib.hid (Kd.R_mono hR5 (fun _ _ => trivial))
          have HB5 := Lib.hid hB5
          clear hR5 hB5 hW4
          go_wp2_with fail
          go_roundw
          case rel => exact ⟨_, i + 1, rfl, by omega, by go_num, by rw [HT.out]; simpa [hq] using HR5.out, HB5.out⟩
          case measure => simp [intOf]; omega
        · have hq1 : decide (z = 0) = false := decide_eq_false hq
          have hq2 : (z == 0) = false := by simp [hq]
          go_upto_region 5 with (fail)
          refine still_tail 12 (by kernel_rfl) (by kernel_rfl) ?_
          simp only [List.take_succ_cons, List.take_zero, List.drop_succ_cons, List.drop_zero]
          still_step
          still_step
          still_step
          still_step
          still_step
          still_step
          still_step
          still_step
          still_step
          still_step
          still_step
          still_step
          refine wpStill_nil ?_
          go_wp2_with (go_at_call 20; refine (cc _).mono ?_; rintro e w4 ⟨rfl, hB4⟩; have HB4 := Lib.hid hB4; clear hB4)
          go_roundw
          case rel => exact ⟨_, i + 1, rfl, by omega, by go_num, by rw [HT.out]; simpa [hq] using Kd.R_below HR.out ((below_drew (Below.refl _ wr)).trans HB4.out), (HB.out.trans ((below_drew (Below.refl _ wr)).trans HB4.out |>.mono HB.out.size))⟩
          case measure => simp [intOf]; omega
      | false =>
        go_wp2
        go_quiet (fail)
        go_wp2
        go_roundw
        case rel => exact ⟨_, i + 1, rfl, by omega, by go_num, by rw [HT.out]; simpa using Kd.R_drewN HR.out _, pw_below_drewN HB.out _⟩
        case measure => simp [intOf]; omega
    · have hlt' : decide ((i : Int) < (l.length : Int)) = false := decide_eq_false (by omega)
      have hil : i = l.length := by omega
      subst hil
      rw [List.take_length] at HR
      clear hR hB
      go_wp2_with fail
      go_ret
      exact ⟨_, rfl, Kd.R_lower HR.out (by omega), (hb0.trans (HB.out.mono hb0.size))⟩
end Go.Proofs.Ytcpaejdipohndaa.V

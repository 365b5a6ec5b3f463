/- The walk of the law StatsBounds: what it reads is of bulk at most 1048576. -/
import Derived.Test.YtihanpdfnpgnfaaRKinds
import Derived.Test.YtihanpdfnpgnfaaTB
import Derived.Test.YtihanpdfnpgnfaaSBuild
import Derived.Test.YtihanpdfnpgnfaaPAllx10
import Derived.Test.YtihanpdfnpgnfaaPAllx11
namespace Go.Proofs.Ytihanpdfnpgnfaa.H
open Go.RowKit Go.Lib Go.Proofs.YtihanpdfnpgnfaaW.PrintWords Go.Proofs.Ytihanpdfnpgnfaa.PAll Go.Proofs.YtihanpdfnpgnfaaW.PrintLast Go.Proofs.YtihanpdfnpgnfaaW.PrintMore
set_option linter.unusedVariables false
/-- What stands in memory while the law's loops run: the two ends, the counts made, the values. -/
structure SB (W : World) (g : Nat) (lo hi cnt : Int) (A0 : Option Addr) (l0 : List Int) (Ab : Option Addr) (cb : Nat) (bs : List S36) (Ae : Option Addr) (ce : Nat) (es : List S41) (wr : World) : Prop where
  f5 : wr.heap[W.heap.size]? = some (.cells #[.int .i64 lo, .int .i64 hi] 32 (0, 0))
  fs : wr.heap[g]? = some (.cells #[.int .i64 cnt, .slice Ab bs.length cb, .slice Ae es.length ce] 27 (0, 0))
  C0 : Kd.C (Kd.int .i64) wr A0 l0.length l0
  Cb : Kd.C k36 wr Ab bs.length bs
  Ce : Kd.C k41 wr Ae es.length es
  B : Below W.heap.size W wr
  z : W.heap.size < g ∧ g < wr.heap.size
section
variable {W : World} {g : Nat} {lo hi cnt : Int} {A0 : Option Addr} {l0 : List Int} {Ab : Option Addr} {cb : Nat} {bs : List S36} {Ae : Option Addr} {ce : Nat} {es : List S41} {wr wr' : World}
theorem SB.below (h : SB W g lo hi cnt A0 l0 Ab cb bs Ae ce es wr) (hb : Below wr.heap.size wr wr') : SB W g lo hi cnt A0 l0 Ab cb bs Ae ce es wr' where
  f5 := (hb.block _ (by have := h.z; omega)).trans h.f5
  fs := (hb.block _ (by have := h.z; omega)).trans h.fs
  C0 := Kd.C_below h.C0 hb
  Cb := Kd.C_below h.Cb hb
  Ce := Kd.C_below h.Ce hb
  B := h.B.trans (hb.mono (by have := h.z; omega))
  z := by have := h.z; have := hb.size; omega
theorem SB.drewN (h : SB W g lo hi cnt A0 l0 Ab cb bs Ae ce es wr) (n : Nat) : SB W g lo hi cnt A0 l0 Ab cb bs Ae ce es (wr.drewN n) := h.below ⟨rfl, rfl, rfl, Nat.le_refl _, fun _ _ => rfl⟩
theorem SB.drew (h : SB W g lo hi cnt A0 l0 Ab cb bs Ae ce es wr) : SB W g lo hi cnt A0 l0 Ab cb bs Ae ce es wr.drew := h.below ⟨rfl, rfl, rfl, Nat.le_refl _, fun _ _ => rfl⟩
end
theorem statsBounds_walk (A0 : Option Addr) (c0 : Nat) (l0 : List Int) (n1 : Int) (cs2 : List Value) (y2 : Int × Int) (W : World) (hC0 : Kd.C (Kd.int .i64) W A0 l0.length l0) (hl0 : l0.length ≤ c0) (hG0 : R.AllG R.I64r l0) (hG1 : R.I64r n1)
    (hK2 : (Kd.pair (Kd.int .i64) (Kd.int .i64)).K W y2 cs2) (hG2 : R.I64r y2.1 ∧ R.I64r y2.2) :
    Calls Try.prog 4 #[.slice A0 l0.length c0, .int .i64 n1, .agg cs2.toArray] W fun e w' => e = .returned (.bool true) ∧ Below W.heap.size W w' := by
  obtain ⟨lo, hi⟩ := y2
  obtain ⟨ca, cb, rfl, rfl, rfl⟩ := hK2
  obtain ⟨hn, hr⟩ := hG0
  simp only [List.cons_append, List.nil_append]
  go_enter Try.func4, Try.ntmps4
  go_wp2_with fail
  refine (build_calls A0 c0 l0 none 0 [] n1 _ (Kd.C_alloc hC0 _) (Kd.C_nil _ _) hn (by simp) (by simp)).mono ?_
  rintro e w1 ⟨v, v', rfl, hR, hR', hB⟩
  obtain ⟨Ab, cb, rfl, hcb, hCb⟩ := Kd.R_reads hR
  obtain ⟨Ae, ce, rfl, hce, hCe⟩ := Kd.R_reads hR'
  clear hR hR'
  have e5 : w1.heap[W.heap.size]? = some (.cells #[.int .i64 lo, .int .i64 hi] 32 (0, 0)) := (hB.block _ (by simp)).trans (World.alloc_heap_new W _)
  have hz1 : W.heap.size + 1 ≤ w1.heap.size := by have := hB.size; rwa [World.size_alloc] at this
  have e5a : ∀ o, (w1.alloc o).heap[W.heap.size]? = some (.cells #[.int .i64 lo, .int .i64 hi] 32 (0, 0)) := fun o => (Below.heap_alloc _ _ _ (by omega)).trans e5
  have q0 : ∀ o, (w1.alloc o).cell? ⟨W.heap.size, 0, none⟩ = some (.int .i64 lo) := fun o => by simp [World.cell?, e5a]
  have q1 : ∀ o, (w1.alloc o).cell? ⟨W.heap.size, 1, none⟩ = some (.int .i64 hi) := fun o => by simp [World.cell?, e5a]
  have hB1 : Below W.heap.size W w1 := ((Below.refl _ W).alloc (Nat.le_refl _) _).trans (hB.mono (by simp))
  have HC0 := Lib.hid (Kd.C_below hC0 hB1)
  clear hC0 hB e5
  go_wp2_with fail
  have hS : SB W w1.heap.size lo hi l0.length A0 l0 Ab cb (bks l0 n1) Ae ce (ents []) (w1.alloc (.cells #[.int .i64 l0.length, .slice Ab (bks l0 n1).length cb, .slice Ae (ents []).length ce] 27)) :=
    ⟨e5a _, World.alloc_heap_new _ _, Kd.C_alloc HC0.out _, Kd.C_alloc hCb _, Kd.C_alloc hCe _, hB1.alloc (by omega) _, by rw [World.size_alloc]; omega⟩
  generalize (w1.alloc (.cells #[.int .i64 l0.length, .slice Ab (bks l0 n1).length cb, .slice Ae (ents []).length ce] 27)) = w2 at hS ⊢
  clear e5a q0 q1 HC0 hCb hCe hB1
  obtain ⟨L, T, M, hf, g0, g1, g2, g3, g4, g5, -⟩ := Pure.between_law (n := n1) (lo := lo) (hi := hi) (k := 2097160) hn (fun x hx => by have h := hr x hx; unfold R.I64r at h; omega) (by have h := hG2.1; unfold R.I64r at h; omega) (by have h := hG2.2; unfold R.I64r at h; omega) (l0.length : Int) (ents []) (Nat.le_refl _)
  refine (stats_Between.calls 2097160 _ Ab cb (bks l0 n1) Ae ce (ents []) lo hi L T M w2 hS.Cb hcb hS.Ce hce hf).mono ?_
  clear hf
  rintro e w3 ⟨rfl, hb⟩
  replace hS := hS.below hb
  clear hb
  generalize w1.heap.size = g at hS ⊢
  go_wp2_with fail
  go_loopw [11, 13] (fun s t wr => ∃ i : Nat, i ≤ l0.length ∧ s = .int .i64 (Pure.cntR lo hi (l0.take i)) ∧ t = .int .i64 i ∧ SB W g lo hi l0.length A0 l0 Ab cb (bks l0 n1) Ae ce (ents []) wr) (fun _ t _ => l0.length - (intOf t).toNat)
  case atStart => exact ⟨0, by omega, by simp [Pure.cntR_nil], rfl, hS⟩
  case round =>
    clear hS
    obtain ⟨i, hil, rfl, rfl, hS⟩ := hrel
    by_cases hlt : i < l0.length
    · have hlt' : decide ((i : Int) < (l0.length : Int)) = true := decide_eq_true (by omega)
      have p0 : (0 : Int) ≤ (i : Int) := by omega
      have p1 : (i : Int) < (l0.length : Int) := by omega
      have hc := Pure.cntR_le lo hi (l0.take i)
      have hcs := Pure.cntR_succ (lo := lo) (hi := hi) hlt
      obtain ⟨ad, e0, hx⟩ := Kd.at_int hS.C0 (i : Int) p0 p1
      cases e0
      replace hx : wr.cell? (ad.add i) = some (.int .i64 (rd l0 (i : Int))) := by rwa [Int.toNat_natCast] at hx
      have hlo : wr.cell? ⟨W.heap.size, 0, none⟩ = some (.int .i64 lo) := by simp [World.cell?, hS.f5]
      have hhi : wr.cell? ⟨W.heap.size, 1, none⟩ = some (.int .i64 hi) := by simp [World.cell?, hS.f5]
      replace p0 := eq_true p0
      replace p1 := eq_true p1
      have HL : Hid (i + 1 ≤ l0.length) := Lib.hid (by omega)
      have hcl : ((l0.take i).length : Int) ≤ l0.length := by rw [List.length_take]; have := Nat.min_le_right i l0.length; omega
      by_cases d1 : rd l0 (i : Int) ≥ lo
      · have d1' := decide_eq_true d1
        by_cases d2 : rd l0 (i : Int) ≤ hi
        · have d2' := decide_eq_true d2
          have HE : Hid (wrap64 (Pure.cntR lo hi (l0.take i) + 1) = Pure.cntR lo hi (l0.take (i + 1))) := Lib.hid (by
            rw [hcs, if_pos (by simp only [Pure.inR, Bool.and_eq_true, decide_eq_true_eq]; omega), Pure.w64 (by omega) (by omega)])
          clear hlt hcs d1 d2 hc hcl
          go_wp2_with fail
          go_quiet (fail)
          go_wp2_with fail
          exact ⟨⟨i + 1, HL.out, congrArg (Value.int .i64) HE.out, rfl, hS.drewN nq⟩, by have := HL.out; simp only [intOf]; omega⟩
        · have d2' := decide_eq_false d2
          have HE : Hid (Pure.cntR lo hi (l0.take i) = Pure.cntR lo hi (l0.take (i + 1))) := Lib.hid (by
            rw [hcs, if_neg (by simp only [Pure.inR, Bool.and_eq_true, decide_eq_true_eq]; omega), Int.add_zero])
          clear hlt hcs d1 d2 hc hcl
          go_wp2_with fail
          go_quiet (fail)
          go_wp2_with fail
          exact ⟨⟨i + 1, HL.out, congrArg (Value.int .i64) HE.out, rfl, hS.drewN nq⟩, by have := HL.out; simp only [intOf]; omega⟩
      · have d1' := decide_eq_false d1
        have HE : Hid (Pure.cntR lo hi (l0.take i) = Pure.cntR lo hi (l0.take (i + 1))) := Lib.hid (by
          rw [hcs, if_neg (by simp only [Pure.inR, Bool.and_eq_true, decide_eq_true_eq]; omega), Int.add_zero])
        clear hlt hcs d1 hc hcl
        go_wp2_with fail
        go_quiet (fail)
        go_wp2_with fail
        exact ⟨⟨i + 1, HL.out, congrArg (Value.int .i64) HE.out, rfl, hS.drewN nq⟩, by have := HL.out; simp only [intOf]; omega⟩
    · have hlt' : decide ((i : Int) < (l0.length : Int)) = false := decide_eq_false (by omega)
      obtain rfl : i = l0.length := by omega
      rw [List.take_length]
      generalize hcn : Pure.cntR lo hi l0 = cn at *
      clear hlt hcn
      obtain ⟨hbl, hbt, hbs⟩ := Pure.sumB_b (l := l0) (n := n1) hn
      go_wp2_with fail
      go_loopw [12, 14] (fun s t wr => ∃ i : Nat, i ≤ (bks l0 n1).length ∧ s = .int .i64 (Pure.sumB (bks l0 n1) i) ∧ t = .int .i64 i ∧ SB W g lo hi l0.length A0 l0 Ab cb (bks l0 n1) Ae ce (ents []) wr) (fun _ t _ => (bks l0 n1).length - (intOf t).toNat)
      case atStart => exact ⟨0, by omega, rfl, rfl, hS⟩
      case round =>
        clear hS
        obtain ⟨i, hil, rfl, rfl, hS⟩ := hrel
        have hcs : wr.cell? ⟨g, 1, none⟩ = some (.slice Ab (bks l0 n1).length cb) := by simp [World.cell?, hS.fs]
        by_cases hlt : i < (bks l0 n1).length
        · have hlt' : decide ((i : Int) < ((bks l0 n1).length : Int)) = true := decide_eq_true (by omega)
          have p0 : (0 : Int) ≤ (i : Int) := by omega
          have p1 : (i : Int) < ((bks l0 n1).length : Int) := by omega
          obtain ⟨ad, e0, -, -, hx, -⟩ := at_T36 hS.Cb (i : Int) p0 p1
          cases e0
          replace hx : wr.cell? ⟨(ad.add (i * 4)).block, (ad.add (i * 4)).off + 2, none⟩ = some (.int .i64 (rd_T36 (bks l0 n1) (i : Int)).f2) := by rwa [Int.toNat_natCast] at hx
          replace p0 := eq_true p0
          replace p1 := eq_true p1
          have HL : Hid (i + 1 ≤ (bks l0 n1).length) := Lib.hid (by omega)
          have HE : Hid (wrap64 (Pure.sumB (bks l0 n1) i + (rd_T36 (bks l0 n1) (i : Int)).f2) = Pure.sumB (bks l0 n1) (i + 1)) := Lib.hid (by
            have h1 := hbs (i + 1) (by omega)
            rw [← show Pure.sumB (bks l0 n1) (i + 1) = Pure.sumB (bks l0 n1) i + (rd_T36 (bks l0 n1) (i : Int)).f2 from rfl]
            exact Pure.w64 (by omega) (by omega))
          clear hlt
          go_wp2_with fail
          exact ⟨⟨i + 1, HL.out, congrArg (Value.int .i64) HE.out, rfl, hS⟩, by have := HL.out; simp only [intOf]; omega⟩
        · have hlt' : decide ((i : Int) < ((bks l0 n1).length : Int)) = false := decide_eq_false (by omega)
          obtain rfl : i = (bks l0 n1).length := by omega
          clear hlt hbs
          rw [hbt]
          have hc0 : wr.cell? ⟨g, 0, none⟩ = some (.int .i64 l0.length) := by simp [World.cell?, hS.fs]
          have hc2 : wr.cell? ⟨g, 2, none⟩ = some (.slice Ae (ents []).length ce) := by simp [World.cell?, hS.fs]
          go_wp2_with fail
          obtain ⟨L2, T2, M2, hf, k0, k1, k2, k3, k4, k5, k6⟩ := Pure.between_law (l := l0) (n := n1) (lo := -9223372036854775808) (hi := 9223372036854775807) (k := 2097160) hn (fun x hx => by have h := hr x hx; unfold R.I64r at h; omega) (by omega) (by omega) (l0.length : Int) (ents []) (Nat.le_refl _)
          have k7 := k6 (fun x hx => by have h := hr x hx; unfold R.I64r at h; exact h) (by omega)
          have e1 : L2 = (l0.length : Int) := k7
          have e2 : T2 = (l0.length : Int) := by omega
          have e3 : M2 = (l0.length : Int) := by omega
          subst e1 e2 e3
          clear k0 k1 k2 k3 k4 k5 k6 k7
          refine (stats_Between.calls 2097160 _ Ab cb (bks l0 n1) Ae ce (ents []) _ _ _ _ _ wr hS.Cb hcb hS.Ce hce hf).mono ?_
          clear hf
          rintro e w4 ⟨rfl, hb⟩
          replace hS := hS.below hb
          clear hb hcs hc0 hc2
          have hc0 : w4.cell? ⟨g, 0, none⟩ = some (.int .i64 l0.length) := by simp [World.cell?, hS.fs]
          have b1 : decide (L ≤ cn) = true := decide_eq_true g3
          have b2 : decide (cn ≤ M) = true := decide_eq_true g4
          have b3 : decide (L ≤ T) = true := decide_eq_true g1
          have b4 : decide (T ≤ M) = true := decide_eq_true g2
          clear g0 g1 g2 g3 g4 g5
          go_wp2_with fail
          refine (lodestarlaw15_awake.calls 60 true _ (Pure.awake_eq (Nat.le_refl _))).mono ?_
          rintro e w5 ⟨rfl, hb⟩
          have hB := hS.B.trans (hb.mono (by have := hS.z; omega))
          clear hS hb
          go_wp2_with fail
          go_ret
          exact ⟨rfl, hB⟩
end Go.Proofs.Ytihanpdfnpgnfaa.H

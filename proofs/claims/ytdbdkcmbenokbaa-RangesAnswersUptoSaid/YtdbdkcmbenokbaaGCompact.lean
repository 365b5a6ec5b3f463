/- Ranges: slices.CompactFunc over entries, with the test whether two are alike: what is left is each once, at the row's head. -/
import Derived.Test.YtdbdkcmbenokbaaGRow
import Derived.Outline
import Derived.IntWalk
namespace Go.Proofs.Ytdbdkcmbenokbaa.G
open Go.RowKit Go.Sort Go.Lib
set_option linter.unusedVariables false

theorem zeroE (w : World) : (zeroValue 32).run Try.prog w = .ok (.agg #[.int .i64 0, .int .i64 0]) w := by kernel_rfl
def CmpOut (w : World) (g cap : Nat) (l : List En) (e : Ending) (w' : World) : Prop :=
  e = .returned (.slice (some ⟨g, 0, none⟩) (compact l).length cap) ∧ RowD w' g cap (compact l).toArray ∧ w.grownBy w' (some g)
set_option maxRecDepth 100000 in
set_option maxHeartbeats 4000000 in
theorem compact_calls (g cap Bf : Nat) (l : List En) (w : World) (hr : RowD w g cap l.toArray) (hlen : l.length ≤ 1073741824) (hB : w.cell? ⟨Bf, 0, none⟩ = some (.func (.func 21) #[] #[])) (hne : Bf ≠ g) :
    Calls Try.prog 29 #[.slice (some ⟨g, 0, none⟩) l.length cap, .func (.func 30) #[] #[.pointer (some ⟨Bf, 0, none⟩)]] w (CmpOut w g cap l) := by
  have hnc : l.length ≤ cap := by obtain ⟨_, _, _, h, _⟩ := hr; simpa using h
  have hBlt : Bf < w.heap.size := World.block_lt_of_cell? _ _ hB
  have eg : ∀ args w, (callFunc 30 args).run Try.prog w = .ok (.enter 30 args) w := enters_of Try.func30 (by kernel_rfl) rfl
  have all : (∀ j, j < l.length → keeps l.toArray j = true) → compact l = l := fun h => compact_all l h
  have ALL := Lib.hid all
  clear all
  generalize hd : l.toArray = d at *
  have hds : d.size = l.length := by rw [← hd]; simp
  have HD := Lib.hid hd
  have HDS := Lib.hid hds
  clear hd
  by_cases h2 : l.length < 2
  · have h2' : decide ((l.length : Int) < 2) = true := decide_eq_true (by omega)
    have HR := Lib.hid hr
    clear hr hB hds
    go_enter Try.func29, Try.ntmps29
    go_wp2_with fail
    go_ret
    have e := ALL.out (fun j hj => keeps_lt_one d j (by omega))
    refine ⟨by rw [e]; rfl, ?_, ⟨rfl, rfl, rfl, Nat.le_refl _, fun _ _ _ => rfl⟩⟩
    rw [e, HD.out]
    exact HR.out
  · have h2' : decide ((l.length : Int) < 2) = false := decide_eq_false (by omega)
    have HR := Lib.hid hr
    have HB := Lib.hid hB
    clear hr hB hds
    go_enter Try.func29, Try.ntmps29
    go_wp2_with fail
    go_loopg [5] l.length (fun gg s5 wr => ∃ k : Nat, 1 ≤ k ∧ k ≤ l.length ∧ l.length - k ≤ gg ∧ s5 = .int .i64 k ∧ Below w.heap.size w wr ∧ ∀ j, j < k → keeps d j = true)
    case atStart => exact ⟨1, Nat.le_refl _, by omega, by omega, rfl, Below.refl _ _, keeps_lt_one d⟩
    case round =>
      obtain ⟨k, hk1, hk, hg, rfl, hbl, hall⟩ := hrel
      by_cases hlt : k < l.length
      · have hlt' : decide ((k : Int) < (l.length : Int)) = true := decide_eq_true (by omega)
        have hr1 := HR.out.below hbl
        obtain ⟨⟨c0, c1⟩, -, -⟩ := hr1.cell (j := k) (by rw [HDS.out]; exact hlt)
        obtain ⟨⟨e0, e1⟩, -, -⟩ := hr1.cell (j := k - 1) (by rw [HDS.out]; omega)
        have hB1 : wr.cell? ⟨Bf, 0, none⟩ = _ := (hbl.cell (p := ⟨Bf, 0, none⟩) hBlt).trans HB.out
        have HA := Lib.hid hall
        clear hall hr1
        generalize hx : d[k]! = x at c0 c1
        generalize hy : d[k - 1]! = y at e0 e1
        have HX := Lib.hid hx
        have HY := Lib.hid hy
        have C := alike_calls x y Bf wr.drew (by exact hB1) (Nat.lt_of_lt_of_le hBlt hbl.size)
        have q1 : ((k : Int) < (l.length : Int)) := by omega
        have q2 : ((1 : Int) ≤ (k : Int)) = True := eq_true (by omega)
        have q2' : (k : Int) - 1 < (l.length : Int) := by omega
        have q3 : ((k : Int) - 1).toNat = k - 1 := by omega
        have q0 : IntKind.i64.wrap ((k : Int) - 1) = (k : Int) - 1 := IntWalk.i64_in _ (by omega)
        by_cases hdup : x = y
        · rw [decide_eq_true hdup] at C
          subst hdup
          obtain ⟨x1, x2⟩ := x
          dsimp only at c0 c1 e0 e1 C
          clear hx hy hB1
          go_wp2_with fail
          refine still_tail 10 (by kernel_rfl) (by kernel_rfl) ?_
          simp only [List.take_succ_cons, List.take_zero, List.drop_succ_cons, List.drop_zero]
          still_step
          still_step
          still_step
          still_step
          still_step
          still_step
          still_step
          still_step
          still_step
          still_step
          refine wpStill_nil ?_
          clear q0 q2 q2' q3
          have q4 : k < cap := by omega
          have q5 : ¬ cap = k := by omega
          have q6 : (k : Int) < (cap : Int) := by omega
          go_wp2_with (go_at_fn 30; refine C.mono ?_; rintro e W1 ⟨rfl, q, os, rfl⟩)
          have hb1 : Below w.heap.size w (grow (wr.drewN (1 + q)) os) := hbl.trans ((below_grow wr (1 + q) os).mono hbl.size)
          generalize grow (wr.drewN (1 + q)) os = w1 at hb1 ⊢
          clear c0 c1 e0 e1 C hbl
          go_loopg [5, 7] l.length (fun gg s5 s7 wr => ∃ (kk k2 : Nat) (dk : Array En), s5 = .int .i64 kk ∧ s7 = .int .i64 k2 ∧ 1 ≤ k2 ∧ k + k2 ≤ l.length ∧ l.length - (k + k2) ≤ gg ∧ RowD wr g cap dk ∧ w.grownBy wr (some g) ∧ CompInv d (k + k2) kk dk)
          case atStart => exact ⟨k, 1, d, rfl, rfl, Nat.le_refl _, by omega, by omega, HR.out.below hb1, grown_of_below hb1, CompInv.start HA.out (keeps_neg (by omega) (by rw [HX.out, HY.out]))⟩
          case round =>
            clear hb1
            obtain ⟨kk, k2, dk, rfl, rfl, h1, hle, hg2, hrd, hgr, hI⟩ := hrel
            have hkk := hI.lt
            have hds2 := hI.size
            have HI := Lib.hid hI
            have HRD := Lib.hid hrd
            by_cases hlt2 : k + k2 < l.length
            · obtain ⟨⟨cm0, cm1⟩, -, -⟩ := hrd.cell (j := k + k2) (by rw [hds2, HDS.out]; exact hlt2)
              obtain ⟨⟨cp0, cp1⟩, -, -⟩ := hrd.cell (j := k + k2 - 1) (by rw [hds2, HDS.out]; omega)
              obtain ⟨⟨ck0, ck1⟩, ⟨fk0, fk1⟩, hsh⟩ := hrd.cell (j := kk) (by rw [hds2, HDS.out]; omega)
              rw [hI.high (k + k2) (by omega), show (k + k2) * 2 = k * 2 + k2 * 2 by omega] at cm0 cm1
              rw [hI.high (k + k2 - 1) (by omega), show (k + k2 - 1) * 2 = k * 2 + (k2 - 1) * 2 by omega] at cp0 cp1
              have hB1 : wr.cell? ⟨Bf, 0, none⟩ = _ := hgr.cell HB.out (by intro e; injection e with e; exact hne e)
              have HG := Lib.hid hgr
              have hsz := hgr.size
              have hBl2 := Nat.lt_of_lt_of_le hBlt hsz
              clear hrd hI hgr hds2 hsz
              generalize hu : d[k + k2]! = u at cm0 cm1
              generalize hv : d[k + k2 - 1]! = v at cp0 cp1
              generalize dk[kk]! = old at ck0 ck1
              have HU := Lib.hid hu
              have HV := Lib.hid hv
              have C := alike_calls u v Bf wr.drew (by exact hB1) hBl2
              have q1 : ((k2 : Int) < ((l.length - k : Nat) : Int)) = True := eq_true (by omega)
              have q1' : (k2 < l.length - k) = True := eq_true (by omega)
              have q2 : ((1 : Int) ≤ (k2 : Int)) = True := eq_true (by omega)
              have q3 : ((k2 : Int) - 1).toNat = k2 - 1 := by omega
              have q4 : (k2 : Int) - 1 < ((l.length - k : Nat) : Int) := by omega
              have q0 : IntKind.i64.wrap ((k2 : Int) - 1) = (k2 : Int) - 1 := IntWalk.i64_in _ (by omega)
              have hlt3 : decide (k2 < l.length - k) = true := decide_eq_true (by omega)
              obtain ⟨u1, u2⟩ := u
              obtain ⟨v1, v2⟩ := v
              dsimp only at cm0 cm1 cp0 cp1 C
              clear hu hv hB1
              by_cases huv : ((u1, u2) : En) = (v1, v2)
              · rw [decide_eq_true huv] at C
                go_wp2_with fail
                refine still_tail 10 (by kernel_rfl) (by kernel_rfl) ?_
                simp only [List.take_succ_cons, List.take_zero, List.drop_succ_cons, List.drop_zero]
                still_step
                still_step
                still_step
                still_step
                still_step
                still_step
                still_step
                still_step
                still_step
                still_step
                refine wpStill_nil ?_
                clear q0 q2 q3 q4
                go_wp2_with (go_at_fn 30; refine C.mono ?_; rintro e W1 ⟨rfl, q, os, rfl⟩)
                have hb2 : Below wr.heap.size wr (grow (wr.drewN (1 + q)) os) := below_grow wr (1 + q) os
                generalize grow (wr.drewN (1 + q)) os = w2 at hb2 ⊢
                go_roundg (l.length - (k + (k2 + 1)))
                case measure => omega
                case rel => exact ⟨kk, k2 + 1, dk, rfl, by go_num, by omega, by omega, Nat.le_refl _, HRD.out.below hb2, grown_trans HG.out (grown_of_below hb2), HI.out.skip (keeps_neg (by omega) (by rw [HU.out, HV.out, huv]))⟩
              · rw [decide_eq_false huv] at C
                go_wp2_with fail
                refine still_tail 10 (by kernel_rfl) (by kernel_rfl) ?_
                simp only [List.take_succ_cons, List.take_zero, List.drop_succ_cons, List.drop_zero]
                still_step
                still_step
                still_step
                still_step
                still_step
                still_step
                still_step
                still_step
                still_step
                still_step
                refine wpStill_nil ?_
                clear q0 q2 q3 q4
                have q5 : ((kk : Int) < (l.length : Int)) = True := eq_true (by omega)
                have FR : ∀ W1, Below wr.heap.size wr W1 → ∀ a : Addr, a.block = g → W1.cell? a = wr.cell? a ∧ W1.frozen? a = wr.frozen? a := fun W1 hb a ha => ⟨hb.cell (by rw [ha]; exact HRD.out.lt), hb.frozen (by rw [ha]; exact HRD.out.lt)⟩
                have FS : ∀ W1, Below wr.heap.size wr W1 → W1.shape? g = some (32, cap * 2) := fun W1 hb => ((HRD.out.below hb).cell (j := kk) (by have := HI.out.size; rw [this, HDS.out]; omega)).2.2
                have HFR := Lib.hid FR
                have HFS := Lib.hid FS
                clear FR FS
                go_wp2_with (go_at_fn 30; refine C.mono ?_; rintro e W1 ⟨rfl, q, os, hW⟩; have hb2 : Below wr.heap.size wr W1 := (by rw [hW]; exact below_dg wr q os); clear hW; replace cm0 := (HFR.out W1 hb2 ⟨g, _, none⟩ rfl).1.trans cm0; replace cm1 := (HFR.out W1 hb2 ⟨g, _, none⟩ rfl).1.trans cm1; replace ck0 := (HFR.out W1 hb2 ⟨g, _, none⟩ rfl).1.trans ck0; replace ck1 := (HFR.out W1 hb2 ⟨g, _, none⟩ rfl).1.trans ck1; replace fk0 := (HFR.out W1 hb2 ⟨g, _, none⟩ rfl).2.trans fk0; replace fk1 := (HFR.out W1 hb2 ⟨g, _, none⟩ rfl).2.trans fk1; replace hsh := HFS.out W1 hb2; clear cp0 cp1 C)
                go_roundg (l.length - (k + (k2 + 1)))
                case measure => omega
                case rel =>
                  refine ⟨kk + 1, k2 + 1, dk.setIfInBounds kk (u1, u2), by go_num, by go_num, by omega, by omega, Nat.le_refl _, (HRD.out.below hb2).set (by have := HI.out.size; rw [this, HDS.out]; omega) u1 u2, grown_trans HG.out (grown_trans (grown_of_below hb2) (grown_trans (grown_set _ _ _ _) (grown_set _ _ _ _))), ?_⟩
                  have := HI.out.keep (by rw [HDS.out]; exact hlt2) (keeps_pos (by rw [HU.out, HV.out]; exact huv))
                  rwa [HU.out] at this
            · have hend : k + k2 = l.length := by omega
              have hlt3 : decide (k2 < l.length - k) = false := decide_eq_false (by omega)
              have hb0 : ∀ j, j < (l.length - kk) * 2 → (wr.cell? ⟨g, kk * 2 + j, none⟩).isSome = true ∧ wr.frozen? ⟨g, kk * 2 + j, none⟩ = false := by
                obtain ⟨cur, hb, hs, hc, _⟩ := hrd
                intro j hj
                have : kk * 2 + j < cur.size := by omega
                exact ⟨by simp only [World.cell?, hb]; simp [this], by simp [World.frozen?, hb]⟩
              have hcl := fun ty => run_clear_E wr 22 32 ty Try.underlying22 zeroE g (kk * 2) (l.length - kk) (cap - kk) (by omega) (fun j hj => (hb0 j hj).1) (fun j hj => (hb0 j hj).2)
              have HG := Lib.hid hgr
              have q4 : kk < cap := by omega
              have q5 : ¬ cap = kk := by omega
              have q6 : ((kk : Int) < (cap : Int)) = True := eq_true (by omega)
              have q7 : ((kk : Int) ≤ (cap : Int)) = True := eq_true (by omega)
              have q8 : ((kk : Int) ≤ (l.length : Int)) = True := eq_true (by omega)
              have HEND := Lib.hid hend
              clear hrd hI hgr hds2 hb0 hend
              go_wp2_with fail
              go_ret
              have hI := HI.out
              rw [HEND.out, ← HDS.out] at hI
              have hl : (compact l).length = kk := by
                have := hI.len
                rw [← HD.out] at this
                simpa [compact] using this
              obtain ⟨hr9, hg9⟩ := HRD.out.cleared (k := kk) (by rw [hI.size, HDS.out]; omega) (List.replicate ((l.length - kk) * 2) (.int .i64 0))
              have hlow := hI.low
              refine ⟨by rw [hl]; rfl, ?_, grown_trans HG.out hg9⟩
              have e : (compact l).toArray = dk.take kk := by
                apply Array.ext_getElem?
                intro j
                by_cases hj : j < kk
                · have := hlow j hj
                  rw [show compactUpTo d d.size = compact l by rw [HDS.out, ← HD.out]; rfl] at this
                  rw [List.getElem?_toArray, this]
                  have hj2 : j < dk.size := by have := hI.size; have := hI.lt; omega
                  rw [getElem!_pos dk j hj2, Array.getElem?_eq_getElem (by simp; omega)]
                  simp
                · rw [Array.getElem?_eq_none (by simp; omega), Array.getElem?_eq_none (by simp; omega)]
              rw [e]
              exact hr9
        · rw [decide_eq_false hdup] at C
          have HC2 := Lib.hid hdup
          obtain ⟨x1, x2⟩ := x
          obtain ⟨y1, y2⟩ := y
          dsimp only at c0 c1 e0 e1 C
          clear hx hy hB1 hdup
          go_wp2_with fail
          refine still_tail 10 (by kernel_rfl) (by kernel_rfl) ?_
          simp only [List.take_succ_cons, List.take_zero, List.drop_succ_cons, List.drop_zero]
          still_step
          still_step
          still_step
          still_step
          still_step
          still_step
          still_step
          still_step
          still_step
          still_step
          refine wpStill_nil ?_
          clear q0 q2 q2' q3
          have HBL := Lib.hid hbl
          clear hbl
          go_wp2_with (go_at_fn 30; refine C.mono ?_; rintro e W1 ⟨rfl, q, os, hW⟩; have hb1 : Below wr.heap.size wr W1 := (by rw [hW]; exact below_dg wr q os); clear hW)
          go_roundg (l.length - (k + 1))
          case measure => omega
          case rel =>
            refine ⟨k + 1, by omega, by omega, Nat.le_refl _, by go_num, HBL.out.trans (hb1.mono HBL.out.size), fun j hj => ?_⟩
            by_cases e : j = k
            · subst e
              exact keeps_pos (by rw [HX.out, HY.out]; exact HC2.out)
            · exact HA.out j (by omega)
      · obtain rfl : k = l.length := by omega
        have hlt' : decide ((l.length : Int) < (l.length : Int)) = false := decide_eq_false (by omega)
        have e := ALL.out hall
        have HE := Lib.hid e
        have HBL := Lib.hid hbl
        clear hall hbl e hlt
        go_wp2_with fail
        go_ret
        refine ⟨by rw [HE.out]; rfl, ?_, grown_of_below HBL.out⟩
        rw [HE.out, HD.out]
        exact HR.out.below HBL.out
end Go.Proofs.Ytdbdkcmbenokbaa.G

/- The walk of the law WordsBuilds: an index of any points tells which have which value of a field. -/
import Derived.Test.YtcpaejdipohndaaVMut
import Derived.Test.YtcpaejdipohndaaVRefVals
namespace Go.Proofs.Ytcpaejdipohndaa.H
open Go.RowKit Go.Lib Go.Proofs.YtcpaejdipohndaaW.PrintWords Go.Proofs.Ytcpaejdipohndaa.PAll Go.Proofs.Ytcpaejdipohndaa.V Go.Proofs.Ytcpaejdipohndaa.R
set_option linter.unusedVariables false
theorem rowVa_rd {W : World} {base : Nat} {u : Value} {E : List Va} (h : RowVa W base u E) : ∃ A c, u = .slice A E.length c ∧ E.length ≤ c ∧ Kd.C kV W A E.length E := Kd.R_reads h
set_option maxRecDepth 100000 in
set_option maxHeartbeats 1600000 in
theorem wordsBuilds_walk0 (A : Option Addr) (c : Nat) (l : List Pt) (name : ByteArray) (v : Va) (W : World) (hC : Kd.C k33 W A l.length l) (hc : l.length ≤ c) (hG : GoodL l) (hl : l.length ≤ 1048576) (hn : ∀ p ∈ l, p.f1.length ≤ 1048576 ∧ p.f2.length ≤ 1048576 ∧ ∀ x ∈ p.f1, x.f1.length ≤ 1048576) (hv : GoodV v) :
    Calls Try.prog 3 #[.slice A l.length c, .string name, .agg #[.int .i64 v.f0, .int .i64 v.f1, .string v.f2]] W fun e W' => e = .returned (.bool true) ∧ Below W.heap.size W W' := by
  have HG := Lib.hid hG
  have HV := Lib.hid hv
  have HCx : Hid (∀ W', Below W.heap.size W W' → Kd.C k33 W' A l.length l) := Lib.hid (fun W' h => Kd.C_below hC h)
  have HN := Lib.hid hn
  clear hC hG hv hn
  have hb0 : Below W.heap.size W (W.alloc (.cells #[.int .i64 v.f0, .int .i64 v.f1, .string v.f2] 24)) := (Below.refl _ W).alloc (Nat.le_refl _) _
  have hv0 := World.alloc_heap_new W (.cells #[.int .i64 v.f0, .int .i64 v.f1, .string v.f2] 24)
  have hz0 : (W.alloc (.cells #[.int .i64 v.f0, .int .i64 v.f1, .string v.f2] 24)).heap.size = W.heap.size + 1 := by simp
  go_enter Try.func3, Try.ntmps3
  go_upto_region 1 with (fail)
  generalize W.alloc (.cells #[.int .i64 v.f0, .int .i64 v.f1, .string v.f2] 24) = w0 at *
  have HB0 := Lib.hid hb0
  have HV0 := Lib.hid hv0
  clear hb0 hv0
  go_upto_block 0 with (first
    | (go_at_call 7; refine (twin_calls A c l _ (HCx.out _ HB0.out) hl HN.out).mono ?_; rintro e w1 ⟨u1, rfl, hR1, hB1⟩; obtain ⟨At, ct, rfl, hct, hCt⟩ := Kd.R_reads hR1; have HR1 := Lib.hid hR1; have HB1 := Lib.hid hB1; have HCt := Lib.hid hCt; clear hR1 hB1 hCt)
    | (go_at_call 8; refine (build_calls At ct l name _ HCt.out hct hl HG.out).mono ?_; rintro e w2 ⟨x, rfl, hX, hB2⟩; obtain ⟨bx, rfl⟩ : ∃ bx, x = .pointer (some ⟨bx, 0, none⟩) := (by obtain ⟨bx, _, _, _, _, h, _⟩ := hX; exact ⟨bx, h⟩); have HX := Lib.hid hX; have HB2 := Lib.hid hB2; clear hX hB2)
    | (go_at_call 9; refine (refRows_calls A c l name _ (HCx.out _ (HB0.out.trans ((HB1.out.mono HB0.out.size).trans (HB2.out.mono (Nat.le_trans HB0.out.size HB1.out.size))))) hc hl (fun p hp => (HN.out p hp).2.1)).mono ?_; rintro e w3 ⟨u3, rfl, hR3, hB3⟩; obtain ⟨Ar, cr, rfl, hcr, hCr⟩ := Kd.R_reads hR3; have HR3 := Lib.hid hR3; have HB3 := Lib.hid hB3; clear hR3 hB3 hCr))
  go_cut [10] (fun s wc => TMut w0.heap.size w1.heap.size (.slice At l.length ct) l w3 wc)
  case first =>
    go_wp2_with fail
    go_loopw [10] (fun s wr => ∃ (i : Nat), i ≤ l.length ∧ s = .int .i64 i ∧ TMut w0.heap.size w1.heap.size (.slice At l.length ct) l w3 wr) (fun s _ => l.length - (intOf s).toNat)
    case atStart => exact ⟨0, Nat.zero_le _, rfl, tm_start HR1.out (HB2.out.trans (HB3.out.mono HB2.out.size))⟩
    case round =>
      obtain ⟨i, hi, rfl, hT⟩ := hrel
      have HT := Lib.hid hT
      by_cases hlt : i < l.length
      · have hlt' : decide ((i : Int) < (l.length : Int)) = true := decide_eq_true (by omega)
        obtain ⟨A', c', e, hp⟩ := hT.pts
        cases e
        obtain ⟨g, cs, rfl, g1, g2, g3, g4, g5⟩ := hp (by omega)
        obtain ⟨u0, hu0⟩ : ∃ u0, cs[i * 3]? = some u0 := ⟨cs[i * 3], Array.getElem?_eq_getElem (by omega)⟩
        have d0 : wr.cell? ⟨g, i * 3, none⟩ = some u0 := by simp [World.cell?, g3, hu0]
        have d1 : wr.frozen? ⟨g, i * 3, none⟩ = false := by simp [World.frozen?, g3]
        have HT1 := Lib.hid (hT.set g1 g2 g3 (i * 3) (.inr (by omega)) (.int .i64 (-77)))
        have p1 := eq_true (show (0 : Int) ≤ (i : Int) by omega)
        have p2 := eq_true (show (i : Int) < (l.length : Int) by omega)
        have p3 : (i < l.length) = True := eq_true hlt
        have HNi := HN.out l[i] (List.getElem_mem hlt)
        clear hp g3 g4 g5 hu0 hT
        go_upto_block 2 with (fail)
        generalize wr.setCell ⟨g, i * 3, none⟩ (.int .i64 (-77)) = w5 at *
        go_wp2_with fail
        go_loopw [11] (fun s w6 => ∃ (k : Nat), k ≤ l[i].f2.length ∧ s = .int .i64 k ∧ TMut w0.heap.size w1.heap.size (.slice (some ⟨g, 0, none⟩) l.length ct) l w3 w6) (fun s _ => l[i].f2.length - (intOf s).toNat)
        case atStart => exact ⟨0, Nat.zero_le _, rfl, HT1.out⟩
        case round =>
          obtain ⟨k, hk, rfl, hT6⟩ := hrel
          obtain ⟨A', c', e, hp⟩ := hT6.pts
          cases e
          obtain ⟨g', cs', e, h1, h2, h3, h4, h5⟩ := hp (by omega)
          cases e
          obtain ⟨Af, cf, h6, h7⟩ := h5 i hlt
          have e0 : wr.cell? ⟨g, i * 3 + 2, none⟩ = some (.slice Af l[i].f2.length cf) := by simp [World.cell?, h3, h6]
          by_cases hkl : k < l[i].f2.length
          · have hkl' : decide ((k : Int) < (l[i].f2.length : Int)) = true := decide_eq_true (by omega)
            obtain ⟨gf, fs, rfl, f1, f2, f3, f4⟩ := h7 (by omega)
            obtain ⟨x1, y1⟩ : ∃ u0, fs[k * 4 + 1]? = some u0 := ⟨_, Array.getElem?_eq_getElem (by omega)⟩
            obtain ⟨x2, y2⟩ : ∃ u0, fs[k * 4 + 2]? = some u0 := ⟨_, Array.getElem?_eq_getElem (by omega)⟩
            obtain ⟨x3, y3⟩ : ∃ u0, fs[k * 4 + 3]? = some u0 := ⟨_, Array.getElem?_eq_getElem (by omega)⟩
            have z1 : wr.cell? ⟨gf, k * 4 + 1, none⟩ = some x1 := by simp [World.cell?, f3, y1]
            have z2 : wr.cell? ⟨gf, k * 4 + 2, none⟩ = some x2 := by simp [World.cell?, f3, y2]
            have z3 : wr.cell? ⟨gf, k * 4 + 3, none⟩ = some x3 := by simp [World.cell?, f3, y3]
            have z0 : ∀ q, wr.frozen? ⟨gf, q, none⟩ = false := fun q => by simp [World.frozen?, f3]
            have z4 : wr.shape? gf = some (35, fs.size) := by simp [World.shape?, f3]
            have s1 := blk_set f3 (k * 4 + 1) (.int .i64 0)
            have s2 := blk_set s1 (k * 4 + 2) (.int .i64 0)
            have HT9 := Lib.hid (((hT6.set f1 f2 f3 (k * 4 + 1) (.inl rfl) (.int .i64 0)).set f1 f2 s1 (k * 4 + 2) (.inl rfl) (.int .i64 0)).set f1 f2 s2 (k * 4 + 3) (.inl rfl) (.string ⟨#[]⟩))
            have q1 := eq_true (show (0 : Int) ≤ (k : Int) by omega)
            have q2 := eq_true (show (k : Int) < (l[i].f2.length : Int) by omega)
            have q3 : (k < l[i].f2.length) = True := eq_true hkl
            clear hp h3 h4 h5 h6 f3 y1 y2 y3 s1 s2 hT6 h7
            generalize l[i].f2.length = nf at *
            go_wp2_with fail
            go_roundw
            case rel => exact ⟨k + 1, by omega, by go_num, HT9.out⟩
            case measure => simp [intOf]; omega
          · have hkl' : decide ((k : Int) < (l[i].f2.length : Int)) = false := decide_eq_false (by omega)
            have HT6 := Lib.hid hT6
            clear hp h3 h4 h5 h6 h7 hT6
            go_wp2_with fail
            go_roundw
            case rel => exact ⟨i + 1, by omega, by go_num, HT6.out⟩
            case measure => simp [intOf]; omega
      · have hlt' : decide ((i : Int) < (l.length : Int)) = false := decide_eq_false (by omega)
        clear hT
        go_wp2_with fail
        go_meet
        case rel => exact HT.out
  case rest =>
    have hB12 := HB1.out.size
    have hB23 := HB2.out.size
    have HX4 := Lib.hid ((HX.out.below (HB3.out.mono (Nat.le_refl _))).move hcut.move)
    have HR4 := Lib.hid (rw_move HR3.out (fun k hk hk2 => hcut.move k (Nat.le_trans hB23 hk) hk2))
    have HBc : Hid (Below W.heap.size W wc) := Lib.hid (HB0.out.trans ((hcut.below ((HB1.out.trans (HB2.out.mono hB12)).trans (HB3.out.mono (Nat.le_trans hB12 hB23)))).mono HB0.out.size))
    have hvc : wc.heap[W.heap.size]? = some (.cells #[.int .i64 v.f0, .int .i64 v.f1, .string v.f2] 24 (0, 0)) := (hcut.far _ (.inl (by omega))).trans ((HB3.out.block _ (by omega)).trans ((HB2.out.block _ (by omega)).trans ((HB1.out.block _ (by omega)).trans HV0.out)))
    clear hcut
    have v0 : wc.drew.cell? ⟨W.heap.size, 0, none⟩ = some (.int .i64 v.f0) := cell_of_blk (W := wc) hvc (j := 0) rfl
    have v1 : wc.drew.cell? ⟨W.heap.size, 1, none⟩ = some (.int .i64 v.f1) := cell_of_blk (W := wc) hvc (j := 1) rfl
    have v2 : wc.drew.cell? ⟨W.heap.size, 2, none⟩ = some (.string v.f2) := cell_of_blk (W := wc) hvc (j := 2) rfl
    have hfl := findL_le l name v
    have hgl := anyL_le l name
    have hE := vals_rows HG.out name
    have hrl : (rowsL l name).length ≤ 1048576 := Nat.le_trans (by have := rows_le l name; omega) hl
    obtain ⟨_, _, e, _, hCr⟩ := Kd.R_reads HR4.out
    cases e
    have hEl := vals_rows_le l name
    have KF : ∀ W', Below wc.heap.size wc W' → Calls Try.prog 11 #[.pointer (some ⟨bx, 0, none⟩), .agg #[.int .i64 v.f0, .int .i64 v.f1, .string v.f2]] W' fun e w' => ∃ u, e = .returned u ∧ RowI w' W'.heap.size u (findL l name v) ∧ Below W'.heap.size W' w' := fun W' h => find_calls (HX4.out.below h) hl HV.out
    have KRF : ∀ W', Below wc.heap.size wc W' → Calls Try.prog 12 #[.slice Ar (rowsL l name).length cr, .agg #[.int .i64 v.f0, .int .i64 v.f1, .string v.f2]] W' fun e w' => ∃ u, e = .returned u ∧ RowI w' W'.heap.size u (findL l name v) ∧ Below W'.heap.size W' w' := fun W' h => (refFind_calls Ar cr (rowsL l name) v W' (Kd.C_below hCr h) hrl).mono (by rintro e w' ⟨u, rfl, h1, h2⟩; rw [find_rows] at h1; exact ⟨u, rfl, .ofR h1, h2⟩)
    have KA : ∀ W', Below wc.heap.size wc W' → Calls Try.prog 13 #[.pointer (some ⟨bx, 0, none⟩)] W' fun e w' => ∃ u, e = .returned u ∧ RowI w' W'.heap.size u (anyL l name) ∧ Below W'.heap.size W' w' := fun W' h => any_calls (HX4.out.below h) hl
    have KRA : ∀ W', Below wc.heap.size wc W' → Calls Try.prog 14 #[.slice Ar (rowsL l name).length cr] W' fun e w' => ∃ u, e = .returned u ∧ RowI w' W'.heap.size u (anyL l name) ∧ Below W'.heap.size W' w' := fun W' h => (refAny_calls Ar cr (rowsL l name) W' (Kd.C_below hCr h) hrl).mono (by rintro e w' ⟨u, rfl, h1, h2⟩; rw [any_rows] at h1; exact ⟨u, rfl, .ofR h1, h2⟩)
    have KV : ∀ W', Below wc.heap.size wc W' → Calls Try.prog 16 #[.pointer (some ⟨bx, 0, none⟩)] W' fun e w' => ∃ u, e = .returned u ∧ RowVa w' W'.heap.size u (valsR (rowsL l name)) ∧ Below W'.heap.size W' w' := fun W' h => (values_calls (HX4.out.below h) hl (fun n h2 h5 => sorts_all swo_ltV n h2 (by omega))).mono (by rintro e w' ⟨u, E, rfl, h1, h2, h3⟩; have := vals_one hE h2; subst this; exact ⟨u, rfl, h1, h3⟩)
    have KRV : ∀ W', Below wc.heap.size wc W' → Calls Try.prog 17 #[.slice Ar (rowsL l name).length cr] W' fun e w' => ∃ u, e = .returned u ∧ RowVa w' W'.heap.size u (valsR (rowsL l name)) ∧ Below W'.heap.size W' w' := fun W' h => refValues_calls Ar cr (rowsL l name) W' (Kd.C_below hCr h) hcr hrl
    have KL : ∀ W', Below wc.heap.size wc W' → Calls Try.prog 18 #[.pointer (some ⟨bx, 0, none⟩)] W' fun e w' => e = .returned (.int .i64 (anyL l name).length) ∧ w' = W' := fun W' h => len_calls (HX4.out.below h)
    have HKF : Aside _ := KF
    have HKRF : Aside _ := KRF
    have HKA : Aside _ := KA
    have HKRA : Aside _ := KRA
    have HKV : Aside _ := KV
    have HKRV : Aside _ := KRV
    have HKL : Aside _ := KL
    have hfl2 : (findL l name v).length ≤ 4611686018427387904 := by omega
    have hgl2 : (anyL l name).length ≤ 4611686018427387904 := by omega
    have hEl2 : (valsR (rowsL l name)).length ≤ 4611686018427387904 := by omega
    clear KF KRF KA KRA KV KRV KL hCr hE hvc
    generalize findL l name v = F at *
    generalize anyL l name = G at *
    generalize valsR (rowsL l name) = E at *
    generalize rowsL l name = rs at *
    have KS0 : wc.drew.cell? ⟨W.heap.size, 0, none⟩ = some (.int .i64 v.f0) ∧ wc.drew.cell? ⟨W.heap.size, 1, none⟩ = some (.int .i64 v.f1) ∧ wc.drew.cell? ⟨W.heap.size, 2, none⟩ = some (.string v.f2) ∧ Hid (Below wc.heap.size wc wc.drew) := ⟨v0, v1, v2, Lib.hid ⟨rfl, rfl, rfl, Nat.le_refl _, fun _ _ => rfl⟩⟩
    have KS1 : ∀ W1 W2 : World, Below W1.heap.size W1 W2 → (W1.cell? ⟨W.heap.size, 0, none⟩ = some (.int .i64 v.f0) ∧ W1.cell? ⟨W.heap.size, 1, none⟩ = some (.int .i64 v.f1) ∧ W1.cell? ⟨W.heap.size, 2, none⟩ = some (.string v.f2) ∧ Hid (Below wc.heap.size wc W1)) → (W2.cell? ⟨W.heap.size, 0, none⟩ = some (.int .i64 v.f0) ∧ W2.cell? ⟨W.heap.size, 1, none⟩ = some (.int .i64 v.f1) ∧ W2.cell? ⟨W.heap.size, 2, none⟩ = some (.string v.f2) ∧ Hid (Below wc.heap.size wc W2)) := fun W1 W2 h ⟨h0, h1, h2, h3⟩ => ⟨pw_cell_below h h0, pw_cell_below h h1, pw_cell_below h h2, Lib.hid (h3.out.trans (h.mono h3.out.size))⟩
    have HKS0 : Aside _ := KS0
    have HKS1 : Aside _ := KS1
    clear KS0 KS1 v0 v1 v2
    go_upto_region 14 with (fail)
    go_region_held (fun w' => w'.cell? ⟨W.heap.size, 0, none⟩ = some (.int .i64 v.f0) ∧ w'.cell? ⟨W.heap.size, 1, none⟩ = some (.int .i64 v.f1) ∧ w'.cell? ⟨W.heap.size, 2, none⟩ = some (.string v.f2) ∧ Hid (Below wc.heap.size wc w')) (first | exact HKS0.out | assumption | (exact HKS1.out _ _ (by assumption) (by assumption))) (first
      | (go_at_call 11; with_reducible refine Calls.mono (HKF.out _ ?hb) ?_; (case hb => exact Hid.out (And.right (And.right (And.right (by assumption))))); rintro e w11 ⟨u11, rfl, hR11, hB11⟩; obtain ⟨A11, c11, rfl, hc11, hC11⟩ := hR11.reads; clear hR11)
      | (go_at_call 12; with_reducible refine Calls.mono (HKRF.out _ ?hb) ?_; (case hb => exact Hid.out (And.right (And.right (And.right (by assumption))))); rintro e w12 ⟨u12, rfl, hR12, hB12⟩; obtain ⟨A12, c12, rfl, hc12, hC12⟩ := hR12.reads; have hC13 := Kd.C_below hC11 hB12; clear hR12 hC11)
      | (go_at_call 10; refine Calls.mono (ids_calls A11 c11 F A12 c12 F _ hC13 hc11 hC12 hc12 hfl2) ?_; rintro e w13 ⟨he13, hB13⟩; rw [decide_eq_true rfl] at he13; subst he13; clear hC13 hC12)
      | (go_at_call 13; with_reducible refine Calls.mono (HKA.out _ ?hb) ?_; (case hb => exact Hid.out (And.right (And.right (And.right (by assumption))))); rintro e w21 ⟨u21, rfl, hR21, hB21⟩; obtain ⟨A21, c21, rfl, hc21, hC21⟩ := hR21.reads; clear hR21)
      | (go_at_call 14; with_reducible refine Calls.mono (HKRA.out _ ?hb) ?_; (case hb => exact Hid.out (And.right (And.right (And.right (by assumption))))); rintro e w22 ⟨u22, rfl, hR22, hB22⟩; obtain ⟨A22, c22, rfl, hc22, hC22⟩ := hR22.reads; first | (have hC23 := Kd.C_below hC21 hB22; clear hC21) | skip; clear hR22)
      | (go_at_call 10; refine Calls.mono (ids_calls A21 c21 G A22 c22 G _ hC23 hc21 hC22 hc22 hgl2) ?_; rintro e w23 ⟨he23, hB23⟩; rw [decide_eq_true rfl] at he23; subst he23; clear hC23 hC22)
      | (go_at_call 16; with_reducible refine Calls.mono (HKV.out _ ?hb) ?_; (case hb => exact Hid.out (And.right (And.right (And.right (by assumption))))); rintro e w31 ⟨u31, rfl, hR31, hB31⟩; obtain ⟨A31, c31, rfl, hc31, hC31⟩ := rowVa_rd hR31; clear hR31)
      | (go_at_call 17; with_reducible refine Calls.mono (HKRV.out _ ?hb) ?_; (case hb => exact Hid.out (And.right (And.right (And.right (by assumption))))); rintro e w32 ⟨u32, rfl, hR32, hB32⟩; obtain ⟨A32, c32, rfl, hc32, hC32⟩ := rowVa_rd hR32; have hC33 := Kd.C_below hC31 hB32; clear hR32 hC31)
      | (go_at_call 15; refine Calls.mono (sameV_calls A31 c31 E A32 c32 E _ hC33 hc31 hC32 hc32 hEl2) ?_; rintro e w33 ⟨he33, hB33⟩; rw [decide_eq_true rfl] at he33; subst he33; clear hC33 hC32)
      | (go_at_call 18; with_reducible refine Calls.mono (HKL.out _ ?hb) ?_; (case hb => exact Hid.out (And.right (And.right (And.right (by assumption))))); rintro e w41 ⟨rfl, hw41⟩; subst hw41))
    have hz22 : Hid (Below wc.heap.size wc w22) := And.right (And.right (And.right (by assumption)))
    clear hC22
    go_upto_block 4 with (first
      | (go_at_call 13; with_reducible refine Calls.mono (HKA.out _ hz22.out) ?_; rintro e wA ⟨uA, rfl, hRA, hBA⟩; obtain ⟨Aa, ca, rfl, hca, hCa⟩ := hRA.reads; have HRA := Lib.hid hRA; have HBA := Lib.hid hBA; clear hRA hBA hCa)
      | (go_at_call 16; with_reducible refine Calls.mono (HKV.out _ (hz22.out.trans (HBA.out.mono hz22.out.size))) ?_; rintro e wB ⟨uB, rfl, hRB, hBB⟩; obtain ⟨Ab, cb, rfl, hcb, hCb⟩ := rowVa_rd hRB; have HRB := Lib.hid hRB; have HBB := Lib.hid hBB; clear hRB hBB hCb))
    have hzB : w22.heap.size ≤ wA.heap.size := HBA.out.size
    have hRa0 : RMut w22.heap.size Aa G.length 1 3 wB wB := rmut_of (Kd.R_below HRA.out.toR HBB.out) rfl
    have hRb0 : RMut w22.heap.size Ab E.length 3 24 wB wB := rmut_of (d := kV) (Kd.R_lower HRB.out hzB) rfl
    go_cut [14] (fun s w5 => RMut w22.heap.size Aa G.length 1 3 wB w5 ∧ RMut w22.heap.size Ab E.length 3 24 wB w5)
    case first =>
      go_wp2_with fail
      go_loopw [14] (fun s wr => ∃ (k : Nat), k ≤ G.length ∧ s = .int .i64 k ∧ RMut w22.heap.size Aa G.length 1 3 wB wr ∧ RMut w22.heap.size Ab E.length 3 24 wB wr) (fun s _ => G.length - (intOf s).toNat)
      case atStart => exact ⟨0, Nat.zero_le _, rfl, hRa0, hRb0⟩
      case round =>
        obtain ⟨k, hk, rfl, hMa, hMb⟩ := hrel
        by_cases hlt : k < G.length
        · have hlt' : decide ((k : Int) < (G.length : Int)) = true := decide_eq_true (by omega)
          obtain ⟨g, cs, rfl, g1, g2, g3⟩ := hMa.row (by omega)
          obtain ⟨u0, hu0⟩ : ∃ u0, cs[k]? = some u0 := ⟨_, Array.getElem?_eq_getElem (by omega)⟩
          have d0 : wr.cell? ⟨g, k, none⟩ = some u0 := by simp [World.cell?, g2, hu0]
          have d1 : wr.frozen? ⟨g, k, none⟩ = false := by simp [World.frozen?, g2]
          have HMa := Lib.hid (hMa.set g1 g2 k (.int .i64 (-77)))
          have HMb := Lib.hid (hMb.set g1 g2 k (.int .i64 (-77)))
          have p1 := eq_true (show (0 : Int) ≤ (k : Int) by omega)
          have p2 := eq_true (show (k : Int) < (G.length : Int) by omega)
          have p3 : (k < G.length) = True := eq_true hlt
          clear hMa hMb g2 g3 hu0 hRa0 hRb0
          go_wp2_with fail
          go_roundw
          case rel => exact ⟨k + 1, by omega, by go_num, HMa.out, HMb.out⟩
          case measure => simp [intOf]; omega
        · have hlt' : decide ((k : Int) < (G.length : Int)) = false := decide_eq_false (by omega)
          have HMa := Lib.hid hMa
          have HMb := Lib.hid hMb
          clear hMa hMb hRa0 hRb0
          go_wp2_with fail
          go_meet
          case rel => exact ⟨HMa.out, HMb.out⟩
    case rest =>
      rename_i w5
      have HMb0 := Lib.hid hcut.2
      clear hcut hRa0 hRb0
      go_upto_block 6 with (fail)
      go_cut [15] (fun s w5 => RMut w22.heap.size Ab E.length 3 24 wB w5)
      case first =>
        go_wp2_with fail
        go_loopw [15] (fun s wr => ∃ (k : Nat), k ≤ E.length ∧ s = .int .i64 k ∧ RMut w22.heap.size Ab E.length 3 24 wB wr) (fun s _ => E.length - (intOf s).toNat)
        case atStart => exact ⟨0, Nat.zero_le _, rfl, HMb0.out⟩
        case round =>
          obtain ⟨k, hk, rfl, hMb⟩ := hrel
          by_cases hlt : k < E.length
          · have hlt' : decide ((k : Int) < (E.length : Int)) = true := decide_eq_true (by omega)
            obtain ⟨g, cs, rfl, g1, g2, g3⟩ := hMb.row (by omega)
            obtain ⟨x0, y0⟩ : ∃ u0, cs[k * 3]? = some u0 := ⟨_, Array.getElem?_eq_getElem (by omega)⟩
            obtain ⟨x1, y1⟩ : ∃ u0, cs[k * 3 + 1]? = some u0 := ⟨_, Array.getElem?_eq_getElem (by omega)⟩
            obtain ⟨x2, y2⟩ : ∃ u0, cs[k * 3 + 2]? = some u0 := ⟨_, Array.getElem?_eq_getElem (by omega)⟩
            have z0 : wr.cell? ⟨g, k * 3, none⟩ = some x0 := by simp [World.cell?, g2, y0]
            have z1 : wr.cell? ⟨g, k * 3 + 1, none⟩ = some x1 := by simp [World.cell?, g2, y1]
            have z2 : wr.cell? ⟨g, k * 3 + 2, none⟩ = some x2 := by simp [World.cell?, g2, y2]
            have z3 : ∀ q, wr.frozen? ⟨g, q, none⟩ = false := fun q => by simp [World.frozen?, g2]
            have z4 : wr.shape? g = some (24, cs.size) := by simp [World.shape?, g2]
            have s1 := blk_set g2 (k * 3) (.int .i64 0)
            have s2 := blk_set s1 (k * 3 + 1) (.int .i64 0)
            have HMb := Lib.hid (((hMb.set g1 g2 (k * 3) (.int .i64 0)).set g1 s1 (k * 3 + 1) (.int .i64 0)).set g1 s2 (k * 3 + 2) (.string ⟨#[]⟩))
            have p1 := eq_true (show (0 : Int) ≤ (k : Int) by omega)
            have p2 := eq_true (show (k : Int) < (E.length : Int) by omega)
            have p3 : (k < E.length) = True := eq_true hlt
            clear hMb g2 g3 y0 y1 y2 s1 s2
            go_wp2_with fail
            go_roundw
            case rel => exact ⟨k + 1, by omega, by go_num, HMb.out⟩
            case measure => simp [intOf]; omega
          · have hlt' : decide ((k : Int) < (E.length : Int)) = false := decide_eq_false (by omega)
            have HMb := Lib.hid hMb
            clear hMb
            go_wp2_with fail
            go_meet
            case rel => exact HMb.out
      case rest =>
        have HW5 := Lib.hid (((hz22.out.trans (HBA.out.mono hz22.out.size)).trans (HBB.out.mono (Nat.le_trans hz22.out.size hzB))).trans (hcut.b.mono hz22.out.size))
        clear hcut HMb0
        go_wp2_with (first
          | (go_at_call 13; with_reducible refine Calls.mono (HKA.out _ HW5.out) ?_; rintro e w51 ⟨u51, rfl, hR51, hB51⟩; obtain ⟨A51, c51, rfl, hc51, hC51⟩ := hR51.reads; have HW51 := Lib.hid (HW5.out.trans (hB51.mono HW5.out.size)); clear hR51 hB51)
          | (go_at_call 14; with_reducible refine Calls.mono (HKRA.out _ HW51.out) ?_; rintro e w52 ⟨u52, rfl, hR52, hB52⟩; obtain ⟨A52, c52, rfl, hc52, hC52⟩ := hR52.reads; have hC53 := Kd.C_below hC51 hB52; have HW52 := Lib.hid (HW51.out.trans (hB52.mono HW51.out.size)); clear hR52 hC51 hB52)
          | (go_at_call 10; refine Calls.mono (ids_calls A51 c51 G A52 c52 G _ hC53 hc51 hC52 hc52 hgl2) ?_; rintro e w53 ⟨he53, hB53⟩; rw [decide_eq_true rfl] at he53; subst he53; have HW53 := Lib.hid (HW52.out.trans (hB53.mono HW52.out.size)); clear hC53 hC52 hB53)
          | (go_at_call 16; with_reducible refine Calls.mono (HKV.out _ HW53.out) ?_; rintro e w54 ⟨u54, rfl, hR54, hB54⟩; obtain ⟨A54, c54, rfl, hc54, hC54⟩ := rowVa_rd hR54; have HW54 := Lib.hid (HW53.out.trans (hB54.mono HW53.out.size)); clear hR54 hB54)
          | (go_at_call 17; with_reducible refine Calls.mono (HKRV.out _ HW54.out) ?_; rintro e w55 ⟨u55, rfl, hR55, hB55⟩; obtain ⟨A55, c55, rfl, hc55, hC55⟩ := rowVa_rd hR55; have hC56 := Kd.C_below hC54 hB55; have HW55 := Lib.hid (HW54.out.trans (hB55.mono HW54.out.size)); clear hR55 hC54 hB55)
          | (go_at_call 15; refine Calls.mono (sameV_calls A54 c54 E A55 c55 E _ hC56 hc54 hC55 hc55 hEl2) ?_; rintro e w56 ⟨he56, hB56⟩; rw [decide_eq_true rfl] at he56; subst he56; have HW56 := Lib.hid (HW55.out.trans (hB56.mono HW55.out.size)); clear hC56 hC55 hB56)
          | (go_at_call 19; refine (sure_calls _).mono ?_; rintro e w57 ⟨rfl, hB57⟩; have HW57 := Lib.hid (HW56.out.trans (hB57.mono HW56.out.size)); clear hB57))
        go_ret
        exact ⟨rfl, HBc.out.trans (HW57.out.mono HBc.out.size)⟩
theorem wordsBuilds_walk (A : Option Addr) (c : Nat) (l : List Pt) (name : ByteArray) (cs : List Value) (v : Va) (W : World) (hC : Kd.C k33 W A l.length l) (hc : l.length ≤ c) (hA : AllG GPt l) (hs : name.size ≤ 1048576) (hK : k24.K W v cs) (hG : GVal v) :
    Calls Try.prog 3 #[.slice A l.length c, .string name, .agg cs.toArray] W fun e W' => e = .returned (.bool true) ∧ Below W.heap.size W W' := by
  obtain rfl := k24_open hK
  exact wordsBuilds_walk0 A c l name v W hC hc (goodL_of hA) hA.1 (fun p hp => ⟨(hA.2 p hp).2.1.1, (hA.2 p hp).2.2.1, fun x hx => (((hA.2 p hp).2.1.2 x hx).2).1⟩) (goodV_of hG)
end Go.Proofs.Ytcpaejdipohndaa.H

/- The walk of the law WordsOrder: in which order points of unlike ids stand plays no part. -/
import Derived.Test.YtcpaejdipohndaaVOrder
namespace Go.Proofs.Ytcpaejdipohndaa.H
open Go.RowKit Go.Lib Go.Proofs.YtcpaejdipohndaaW.PrintWords Go.Proofs.Ytcpaejdipohndaa.PAll Go.Proofs.Ytcpaejdipohndaa.V Go.Proofs.Ytcpaejdipohndaa.R
set_option linter.unusedVariables false
set_option maxRecDepth 100000 in
set_option maxHeartbeats 1600000 in
theorem wordsOrder_walk (A : Option Addr) (c : Nat) (l : List Pt) (name : ByteArray) (W : World) (hC : Kd.C k33 W A l.length l) (hc : l.length ≤ c) (hA : AllG GPt l) (hs : name.size ≤ 1048576) :
    Calls Try.prog 6 #[.slice A l.length c, .string name] W fun e W' => e = .returned (.bool true) ∧ Below W.heap.size W W' := by
  have hl : l.length ≤ 1048576 := hA.1
  have HG := Lib.hid (goodL_of hA)
  have HC := Lib.hid hC
  clear hC hA
  go_enter Try.func6, Try.ntmps6
  go_upto_block 0 with (fail)
  go_cut [5] (fun rx wc => ∃ (rv : Value), rv = rx ∧ RowP W W.heap.size wc rv (firsts l) ∧ Below W.heap.size W wc)
  case first =>
    go_wp2_with fail
    go_loopw [5, 7] (fun rx s wr => ∃ (rv : Value) (i : Nat), rv = rx ∧ i ≤ l.length ∧ s = .int .i64 i ∧ RowP W W.heap.size wr rv (firsts (l.take i)) ∧ Below W.heap.size W wr) (fun _ s _ => l.length - (intOf s).toNat)
    case atStart => exact ⟨_, 0, rfl, Nat.zero_le _, rfl, OwnRow.none_ _ _ _ _ _, Below.refl _ _⟩
    case round =>
      obtain ⟨rv, i, rfl, hi, rfl, hR, hB⟩ := hrel
      have HR := Lib.hid hR
      have HB := Lib.hid hB
      by_cases hlt : i < l.length
      · have hlt' : decide ((i : Int) < (l.length : Int)) = true := decide_eq_true (by omega)
        obtain ⟨b0, o0, rfl, hb0, hcs0⟩ := pts_full HC.out (by omega)
        obtain ⟨A1, c1, A2, c2, x0, x1, x2, hK⟩ := hcs0 i hlt
        have HT : Hid (firsts (l.take (i + 1)) = addF (firsts (l.take i)) l[i]) := Lib.hid (by rw [List.take_succ_eq_append_getElem hlt, firsts_snoc])
        have hol : (firsts (l.take i)).length ≤ 1048576 := by have := firsts_le (l.take i); rw [List.length_take] at this; omega
        have HK := Lib.hid hK
        have p1 := eq_true (show (0 : Int) ≤ (i : Int) by omega)
        have p2 := eq_true (show (i : Int) < (l.length : Int) by omega)
        have p3 : (i < l.length) = True := eq_true hlt
        obtain ⟨Ao, co, rfl, hco, hCo⟩ := RowP.C hR hB
        have HCo := Lib.hid hCo
        have HX0 := Lib.hid x0
        have HX1 := Lib.hid x1
        have HX2 := Lib.hid x2
        clear hR hB hcs0 hK hCo x0 x1 x2
        generalize l[i] = p at *
        generalize firsts (l.take i) = o at *
        go_upto_block 2 with (fail)
        go_cut [8] (fun s wc => s = .bool (hasId o p.f0) ∧ Below wr.heap.size wr wc)
        case first =>
          go_wp2_with fail
          go_loopw [8, 9] (fun t s w3 => ∃ (k : Nat), k ≤ o.length ∧ s = .int .i64 k ∧ t = .bool (hasId (o.take k) p.f0) ∧ Below wr.heap.size wr w3) (fun _ s _ => o.length - (intOf s).toNat)
          case atStart => exact ⟨0, Nat.zero_le _, rfl, by simp [hasId], Below.refl _ _⟩
          case round =>
            rename_i w3
            obtain ⟨k, hk, rfl, rfl, hB3⟩ := hrel
            have HB3 := Lib.hid hB3
            by_cases hlk : k < o.length
            · have hlk' : decide ((k : Int) < (o.length : Int)) = true := decide_eq_true (by omega)
              obtain ⟨b1, o1, rfl, hb1, hcs1⟩ := pts_of_C HCo.out (by omega)
              obtain ⟨_, _, _, _, y0, _⟩ := hcs1 k hlk
              have d0 := (hB3.cell (p := ⟨b1, o1 + k * 3, none⟩) hb1).trans y0
              have d1 := (hB3.cell (p := ⟨b0, o0 + i * 3, none⟩) (Nat.lt_of_lt_of_le hb0 HB.out.size)).trans ((HB.out.cell (p := ⟨b0, o0 + i * 3, none⟩) hb0).trans HX0.out)
              have HTk : Hid (hasId (o.take (k + 1)) p.f0 = (hasId (o.take k) p.f0 || decide (o[k].f0 = p.f0))) := Lib.hid (by rw [List.take_succ_eq_append_getElem hlk, hasId_snoc])
              have q1 := eq_true (show (0 : Int) ≤ (k : Int) by omega)
              have q2 := eq_true (show (k : Int) < (o.length : Int) by omega)
              have q3 : (k < o.length) = True := eq_true hlk
              clear hB3 hcs1 y0
              generalize o[k].f0 = qi at *
              generalize hasId (o.take k) p.f0 = t at *
              cases t with
              | true =>
                go_wp2
                go_quiet (fail)
                go_wp2
                go_roundw
                case rel => exact ⟨k + 1, by omega, by go_num, by rw [HTk.out]; simp, pw_below_drewN HB3.out _⟩
                case measure => simp [intOf]; omega
              | false =>
                by_cases hq : qi = p.f0
                · have hq1 : decide (qi = p.f0) = true := decide_eq_true hq
                  have hq2 : (qi == p.f0) = true := by simp [hq]
                  go_wp2
                  go_quiet (fail)
                  go_wp2
                  go_roundw
                  case rel => exact ⟨k + 1, by omega, by go_num, by rw [HTk.out]; simp [hq], pw_below_drewN HB3.out _⟩
                  case measure => simp [intOf]; omega
                · have hq1 : decide (qi = p.f0) = false := decide_eq_false hq
                  have hq2 : (qi == p.f0) = false := by simp [hq]
                  go_wp2
                  go_quiet (fail)
                  go_wp2
                  go_roundw
                  case rel => exact ⟨k + 1, by omega, by go_num, by rw [HTk.out]; simp [hq], pw_below_drewN HB3.out _⟩
                  case measure => simp [intOf]; omega
            · have hlk' : decide ((k : Int) < (o.length : Int)) = false := decide_eq_false (by omega)
              go_wp2_with fail
              go_meet
              case rel => exact ⟨by rw [List.take_of_length_le (by omega)], HB3.out⟩
        case rest =>
          obtain ⟨rfl, hB4⟩ := hcut
          have hR4 : RowP W W.heap.size wc (.slice Ao o.length co) o := OwnRow.below HR.out hB4
          have hB5 := HB.out.trans (hB4.mono HB.out.size)
          have d0 := (hB5.cell (p := ⟨b0, o0 + i * 3, none⟩) hb0).trans HX0.out
          have d1 := (hB5.cell (p := ⟨b0, o0 + i * 3 + 1, none⟩) hb0).trans HX1.out
          have d2 := (hB5.cell (p := ⟨b0, o0 + i * 3 + 2, none⟩) hb0).trans HX2.out
          have hbase := hB5.size
          have HB5 := Lib.hid hB5
          have HR4 := Lib.hid hR4
          clear HB HR HCo HX0 HX1 HX2 hB4 hB5
          cases hh : hasId o p.f0 with
          | true =>
            clear hR4
            have hT2 : addF o p = o := by unfold addF; rw [if_pos hh]
            go_wp2_with fail
            go_roundw
            case rel => exact ⟨_, i + 1, rfl, by omega, by go_num, by rw [HT.out, hT2]; exact HR4.out, HB5.out⟩
            case measure => simp [intOf]; omega
          | false =>
            have hT2 : addF o p = o ++ [p] := by unfold addF; rw [if_neg (by rw [hh]; simp)]
            have hKp := HK.out
            go_wp2_with ((with_reducible refine gate_builtin (b := .append) (xs := #[.tmp 43, .tmp 48]) rfl ?_); at_builtin; refine wpList_append_p (W0 := W) (W := wc) (base := W.heap.size) (v := .slice Ao o.length co) (ps := o) (p := p) (cs := [.int .i64 p.f0, .slice A1 p.f1.length c1, .slice A2 p.f2.length c2]) rfl (.tmp 43) (.tmp 48) rfl rfl rfl hKp hR4 hbase hol ?_; intro r' w8 hu hB8; have HU := Lib.hid hu; have HB8 := Lib.hid hB8; clear hu hB8)
            go_roundw
            case rel => exact ⟨r', i + 1, rfl, by omega, by go_num, by rw [HT.out, hT2]; exact HU.out, ⟨HB8.out.os.trans HB5.out.os, HB8.out.tape.trans HB5.out.tape, HB8.out.output.trans HB5.out.output, Nat.le_trans HB5.out.size (by have := HB8.out.size; omega), fun k hk => (HB8.out.block k hk).trans (HB5.out.block k hk)⟩⟩
            case measure => simp [intOf]; omega
      · have hlt' : decide ((i : Int) < (l.length : Int)) = false := decide_eq_false (by omega)
        obtain rfl : i = l.length := by omega
        clear hR hB
        go_wp2_with fail
        go_meet
        case rel => exact ⟨rv, rfl, by have := HR.out; rwa [List.take_length] at this, HB.out⟩
  case rest =>
    obtain ⟨rv, rfl, hR, hB⟩ := hcut
    obtain ⟨Ao, co, rfl, hco, hCo⟩ := RowP.C hR hB
    have hU := firsts_unlike l
    have hle : (firsts l).length ≤ 1048576 := by have := firsts_le l; omega
    have hGo := goodL_sub HG.out (firsts_mem l)
    have HU := Lib.hid hU
    have HGo := Lib.hid hGo
    have HB := Lib.hid hB
    have HCo := Lib.hid hCo
    clear hR hB hCo hU hGo HG HC
    generalize firsts l = O at *
    go_wp2_with fail
    go_loopw [6, 10] (fun rx s wr => ∃ (rv : Value) (z : Int), rv = rx ∧ s = .int .i64 z ∧ -1 ≤ z ∧ z < (O.length : Int) ∧ RowP wc wc.heap.size wr rv ((O.drop (z + 1).toNat).reverse) ∧ Below wc.heap.size wc wr) (fun _ s _ => (intOf s + 1).toNat)
    case atStart => exact ⟨_, (O.length : Int) - 1, rfl, rfl, by omega, by omega, by rw [show ((O.length : Int) - 1 + 1).toNat = O.length by omega, List.drop_length]; exact OwnRow.none_ _ _ _ _ _, Below.refl _ _⟩
    case round =>
      obtain ⟨rv, z, rfl, rfl, hz1, hz2, hR, hB⟩ := hrel
      have HR := Lib.hid hR
      have HBr := Lib.hid hB
      by_cases hz : 0 ≤ z
      · have hz' : decide (z ≥ 0) = true := decide_eq_true hz
        have hz'' : decide (0 ≤ z) = true := decide_eq_true hz
        have hlt : z.toNat < O.length := by omega
        obtain ⟨b0, o0, rfl, hb0, hcs0⟩ := pts_full HCo.out (by omega)
        obtain ⟨A1, c1, A2, c2, x0, x1, x2, hK⟩ := hcs0 z.toNat hlt
        have d0 := (hB.cell (p := ⟨b0, o0 + z.toNat * 3, none⟩) hb0).trans x0
        have d1 := (hB.cell (p := ⟨b0, o0 + z.toNat * 3 + 1, none⟩) hb0).trans x1
        have d2 := (hB.cell (p := ⟨b0, o0 + z.toNat * 3 + 2, none⟩) hb0).trans x2
        have HT : Hid ((O.drop (z - 1 + 1).toNat).reverse = (O.drop (z + 1).toNat).reverse ++ [O[z.toNat]]) := Lib.hid (by
          rw [show (z - 1 + 1).toNat = z.toNat by omega, List.drop_eq_getElem_cons hlt, List.reverse_cons, show (z + 1).toNat = z.toNat + 1 by omega])
        have hll : ((O.drop (z + 1).toNat).reverse).length ≤ 1048576 := by rw [List.length_reverse, List.length_drop]; omega
        have hbase := hB.size
        have p1 := eq_true (show (0 : Int) ≤ z by omega)
        have p2 := eq_true (show z < (O.length : Int) by omega)
        have p3 : (z.toNat < O.length) = True := eq_true hlt
        have p4 : z < 4611686018427387904 := by omega
        clear hB hcs0 x0 x1 x2
        generalize O[z.toNat] = p at *
        generalize (O.drop (z + 1).toNat).reverse = ps at *
        go_wp2_with ((with_reducible refine gate_builtin (b := .append) (xs := #[.tmp 57, .tmp 62]) rfl ?_); at_builtin; refine wpList_append_p (W0 := wc) (W := wr) (base := wc.heap.size) (v := rv) (ps := ps) (p := p) (cs := [.int .i64 p.f0, .slice A1 p.f1.length c1, .slice A2 p.f2.length c2]) rfl (.tmp 57) (.tmp 62) rfl rfl rfl hK hR hbase hll ?_; intro r' w8 hu hB8; have HU8 := Lib.hid hu; have HB8 := Lib.hid hB8; clear hu hB8)
        go_roundw
        case rel => exact ⟨r', z - 1, rfl, rfl, by omega, by omega, by rw [HT.out]; exact HU8.out, ⟨HB8.out.os.trans HBr.out.os, HB8.out.tape.trans HBr.out.tape, HB8.out.output.trans HBr.out.output, Nat.le_trans HBr.out.size (by have := HB8.out.size; omega), fun k hk => (HB8.out.block k hk).trans (HBr.out.block k hk)⟩⟩
        case measure => simp only [intOf]; omega
      · have hz' : decide (z ≥ 0) = false := decide_eq_false hz
        have hz'' : decide (0 ≤ z) = false := decide_eq_false hz
        have hR2 := HR.out
        rw [show (z + 1).toNat = 0 by omega, List.drop_zero] at hR2
        have hTl : (O.reverse).length = O.length := List.length_reverse
        have hany := any_reverse HU.out name
        have hfind := find_reverse HU.out name
        have hvals : ∀ E E', IsVals O name E → IsVals O.reverse name E' → E' = E := fun E E' h h' => vals_reverse HU.out h h'
        have hGt : GoodL O.reverse := goodL_sub HGo.out (fun p hp => List.mem_reverse.1 hp)
        have HAny := Lib.hid hany
        have HFind : Aside _ := hfind
        have HVals : Aside _ := hvals
        have HTl := Lib.hid hTl
        generalize O.reverse = T at *
        obtain ⟨At, ct, rfl, hct, hCt⟩ := RowP.C hR2 hB
        have cb1 := build_calls Ao co O name wr (Kd.C_below HCo.out hB) hco hle HGo.out
        have HCt := Lib.hid hCt
        clear hR hR2 hB hCt hany hfind hvals hTl HR HCo HU hz1 hz2
        have m1 : True := trivial
        go_wp2_with (clear m1; go_at_call 8; refine cb1.mono ?_; rintro e w2 ⟨x, rfl, hX, hB2⟩; have hX' := hX; obtain ⟨bx, bp, m, av, f, rfl, -⟩ := hX')
        have hlT : T.length ≤ 1048576 := by have := HTl.out; omega
        have cb2 := build_calls At ct T name w2 (Kd.C_below HCt.out hB2) hct hlT hGt
        have HX := Lib.hid hX
        clear hX cb1
        have m1 : True := trivial
        go_wp2_with (clear m1; go_at_call 8; refine cb2.mono ?_; rintro e w3 ⟨y, rfl, hY, hB3⟩; have hY' := hY; obtain ⟨by', bp', m', av', f', rfl, -⟩ := hY')
        have hX3 := HX.out.below hB3
        have HX3 := Lib.hid hX3
        have HY3 := Lib.hid hY
        have HB3 : Hid (Below W.heap.size W w3) := Lib.hid (by
          have e1 := HB.out.trans (HBr.out.mono HB.out.size)
          have e2 := e1.trans (hB2.mono e1.size)
          exact e2.trans (hB3.mono e2.size))
        clear hX3 hY hB2 hB3 cb2 HX HCt HB HBr
        have ca1 := any_calls HX3.out hle
        have m1 : True := trivial
        go_wp2_with (clear m1; go_at_call 13; refine ca1.mono ?_; rintro e w4 ⟨u, rfl, hR4, hB4⟩; obtain ⟨A4, c4, rfl, hc4, hC4⟩ := hR4.reads)
        have ca2 := any_calls (HY3.out.below hB4) hlT
        rw [HAny.out] at ca2
        have HX4 := Lib.hid (HX3.out.below hB4)
        have HY4 := Lib.hid (HY3.out.below hB4)
        have HB4 := Lib.hid (HB3.out.trans (hB4.mono HB3.out.size))
        have HC4 := Lib.hid hC4
        clear hR4 hB4 hC4 ca1 HX3 HY3 HB3
        have m1 : True := trivial
        go_wp2_with (clear m1; go_at_call 13; refine ca2.mono ?_; rintro e w5 ⟨u, rfl, hR5, hB5⟩; obtain ⟨A5, c5, rfl, hc5, hC5⟩ := hR5.reads)
        have hal := anyL_le O name
        have ci := ids_calls A4 c4 (anyL O name) A5 c5 (anyL O name) w5 (Kd.C_below HC4.out hB5) hc4 hC5 hc5 (by omega)
        rw [decide_eq_true rfl] at ci
        have HX5 := Lib.hid (HX4.out.below hB5)
        have HY5 := Lib.hid (HY4.out.below hB5)
        have HB5 := Lib.hid (HB4.out.trans (hB5.mono HB4.out.size))
        clear hR5 hB5 hC5 ca2 HX4 HY4 HB4 HC4
        have m1 : True := trivial
        go_wp2_with (clear m1; go_at_call 10; refine ci.mono ?_; rintro e w6 ⟨rfl, hB6⟩)
        have hX6 := HX5.out.below hB6
        have cv1 := values_calls hX6 hle (fun n h2 h5 => sorts_all swo_ltV n h2 (by omega))
        have HX6 := Lib.hid hX6
        have HY6 := Lib.hid (HY5.out.below hB6)
        have HB6 := Lib.hid (HB5.out.trans (hB6.mono HB5.out.size))
        clear hX6 hB6 ci HX5 HY5 HB5
        have m1 : True := trivial
        go_wp2_with (clear m1; go_at_call 16; refine cv1.mono ?_; rintro e w7 ⟨u, E, rfl, hR7, hE, hB7⟩; obtain ⟨A7, c7, rfl, hc7, hC7⟩ := Kd.R_reads hR7)
        have hY7 := HY6.out.below hB7
        have cv2 := values_calls hY7 hlT (fun n h2 h5 => sorts_all swo_ltV n h2 (by omega))
        have HX7 := Lib.hid (HX6.out.below hB7)
        have HY7 := Lib.hid hY7
        have HB7 := Lib.hid (HB6.out.trans (hB7.mono HB6.out.size))
        have HC7 := Lib.hid hC7
        have HE := Lib.hid hE
        have hEl : E.length ≤ O.length := vals_le (hE.1.imp (fun hab e => by rw [e, swo_ltV.irrefl] at hab; cases hab)) (fun v hv => ((hE.2 v).1 hv).2)
        clear hY7 hB7 hR7 hC7 hE cv1 HX6 HY6 HB6
        have m1 : True := trivial
        go_wp2_with (clear m1; go_at_call 16; refine cv2.mono ?_; rintro e w8 ⟨u, E2, rfl, hR8, hE2, hB8⟩; obtain rfl := HVals.out _ _ HE.out hE2; obtain ⟨A8, c8, rfl, hc8, hC8⟩ := Kd.R_reads hR8)
        have cs := sameV_calls A7 c7 E2 A8 c8 E2 w8 (Kd.C_below HC7.out hB8) hc7 hC8 hc8 (by omega)
        rw [decide_eq_true rfl] at cs
        have HX8 := Lib.hid (HX7.out.below hB8)
        have HY8 := Lib.hid (HY7.out.below hB8)
        have HB8 := Lib.hid (HB7.out.trans (hB8.mono HB7.out.size))
        clear hB8 hR8 hC8 hE2 cv2 HX7 HY7 HB7 HC7
        have m1 : True := trivial
        go_wp2_with (clear m1; go_at_call 15; refine cs.mono ?_; rintro e w9 ⟨rfl, hB9⟩)
        have hX9 := HX8.out.below hB9
        have cv3 := values_calls hX9 hle (fun n h2 h5 => sorts_all swo_ltV n h2 (by omega))
        have HX9 := Lib.hid hX9
        have HY9 := Lib.hid (HY8.out.below hB9)
        have HB9 := Lib.hid (HB8.out.trans (hB9.mono HB8.out.size))
        clear hX9 hB9 cs HX8 HY8 HB8 HE hEl hc7 hc8
        have m1 : True := trivial
        go_wp2_with (clear m1; go_at_call 16; refine cv3.mono ?_; rintro e w10 ⟨u, E, rfl, hR10, hE, hB10⟩; obtain ⟨A9, c9, rfl, hc9, hC9⟩ := Kd.R_reads hR10)
        have HX := Lib.hid (HX9.out.below hB10)
        have HY := Lib.hid (HY9.out.below hB10)
        have HB10 := Lib.hid (HB9.out.trans (hB10.mono HB9.out.size))
        have HC9 := Lib.hid hC9
        have HE := Lib.hid hE
        have hEl : E.length ≤ O.length := vals_le (hE.1.imp (fun hab e => by rw [e, swo_ltV.irrefl] at hab; cases hab)) (fun v hv => ((hE.2 v).1 hv).2)
        clear hB10 hR10 hC9 hE cv3 HX9 HY9 HB9 HVals HAny
        go_loopw [14] (fun s wr => ∃ (i : Nat), i ≤ E.length ∧ s = .int .i64 i ∧ Below w10.heap.size w10 wr) (fun s _ => E.length - (intOf s).toNat)
        case atStart => exact ⟨0, Nat.zero_le _, rfl, Below.refl _ _⟩
        case round =>
          obtain ⟨i, hi, rfl, hBr⟩ := hrel
          have HBr := Lib.hid hBr
          by_cases hlt : i < E.length
          · have hlt' : decide ((i : Int) < (E.length : Int)) = true := decide_eq_true (by omega)
            obtain ⟨b0, o0, rfl, hb0, hcs⟩ := vals_of_C HC9.out (by omega)
            obtain ⟨v0, v1, v2⟩ := hcs i hlt
            have d0 := (hBr.cell (p := ⟨b0, o0 + i * 3, none⟩) hb0).trans v0
            have d1 := (hBr.cell (p := ⟨b0, o0 + i * 3 + 1, none⟩) hb0).trans v1
            have d2 := (hBr.cell (p := ⟨b0, o0 + i * 3 + 2, none⟩) hb0).trans v2
            have p1 := eq_true (show (0 : Int) ≤ (i : Int) by omega)
            have p2 := eq_true (show (i : Int) < (E.length : Int) by omega)
            have p3 : (i < E.length) = True := eq_true hlt
            have gv : GoodV E[i] := ((HE.out.2 _).1 (List.getElem_mem hlt)).1
            have hXr := HX.out.below hBr
            have hYr := HY.out.below hBr
            have hb1 : b0 < wr.heap.size := Nat.lt_of_lt_of_le hb0 hBr.size
            have hfl := findL_le O name E[i]
            clear v0 v1 v2 hcs hBr
            have hfe := HFind.out E[i]
            have KX : ∀ W', Below wr.heap.size wr W' → Calls Try.prog 11 #[.pointer (some ⟨bx, 0, none⟩), .agg #[.int .i64 E[i].f0, .int .i64 E[i].f1, .string E[i].f2]] W' fun e w' => ∃ u, e = .returned u ∧ RowI w' W'.heap.size u (findL O name E[i]) ∧ Below W'.heap.size W' w' := fun W' h => find_calls (hXr.below h) hle gv
            have KY : ∀ W', Below wr.heap.size wr W' → Calls Try.prog 11 #[.pointer (some ⟨by', 0, none⟩), .agg #[.int .i64 E[i].f0, .int .i64 E[i].f1, .string E[i].f2]] W' fun e w' => ∃ u, e = .returned u ∧ RowI w' W'.heap.size u (findL O name E[i]) ∧ Below W'.heap.size W' w' := fun W' h => by have := find_calls (hYr.below h) hlT gv; rw [hfe] at this; exact this
            have HKX : Aside _ := KX
            have HKY : Aside _ := KY
            have hfl2 : (findL O name E[i]).length ≤ 4611686018427387904 := by omega
            clear hXr hYr KX KY hfe gv
            generalize findL O name E[i] = F at *
            generalize E[i] = ev at *
            have KS0 : wr.drew.cell? ⟨b0, o0 + i * 3, none⟩ = some (.int .i64 ev.f0) ∧ wr.drew.cell? ⟨b0, o0 + i * 3 + 1, none⟩ = some (.int .i64 ev.f1) ∧ wr.drew.cell? ⟨b0, o0 + i * 3 + 2, none⟩ = some (.string ev.f2) ∧ Hid (Below wr.heap.size wr wr.drew) := ⟨d0, d1, d2, Lib.hid ⟨rfl, rfl, rfl, Nat.le_refl _, fun _ _ => rfl⟩⟩
            have KS1 : ∀ W1 W2 : World, Below W1.heap.size W1 W2 → (W1.cell? ⟨b0, o0 + i * 3, none⟩ = some (.int .i64 ev.f0) ∧ W1.cell? ⟨b0, o0 + i * 3 + 1, none⟩ = some (.int .i64 ev.f1) ∧ W1.cell? ⟨b0, o0 + i * 3 + 2, none⟩ = some (.string ev.f2) ∧ Hid (Below wr.heap.size wr W1)) → (W2.cell? ⟨b0, o0 + i * 3, none⟩ = some (.int .i64 ev.f0) ∧ W2.cell? ⟨b0, o0 + i * 3 + 1, none⟩ = some (.int .i64 ev.f1) ∧ W2.cell? ⟨b0, o0 + i * 3 + 2, none⟩ = some (.string ev.f2) ∧ Hid (Below wr.heap.size wr W2)) := fun W1 W2 h ⟨h0, h1, h2, h3⟩ => ⟨pw_cell_below h h0, pw_cell_below h h1, pw_cell_below h h2, Lib.hid (h3.out.trans (h.mono h3.out.size))⟩
            have HKS0 : Aside _ := KS0
            have HKS1 : Aside _ := KS1
            clear KS0 KS1 d0 d1 d2
            go_upto_region 23 with (fail)
            go_region_held (fun w' => w'.cell? ⟨b0, o0 + i * 3, none⟩ = some (.int .i64 ev.f0) ∧ w'.cell? ⟨b0, o0 + i * 3 + 1, none⟩ = some (.int .i64 ev.f1) ∧ w'.cell? ⟨b0, o0 + i * 3 + 2, none⟩ = some (.string ev.f2) ∧ Hid (Below wr.heap.size wr w')) (first | exact HKS0.out | (exact HKS1.out _ _ (by assumption) (by assumption))) (first
              | (go_at_call 11; with_reducible refine Calls.mono (HKX.out _ ?hb) ?_; (case hb => exact Hid.out (And.right (And.right (And.right (by assumption))))); rintro e w11 ⟨u11, rfl, hR11, hB11⟩; obtain ⟨A11, c11, rfl, hc11, hC11⟩ := hR11.reads; clear hR11)
              | (go_at_call 11; with_reducible refine Calls.mono (HKY.out _ ?hb) ?_; (case hb => exact Hid.out (And.right (And.right (And.right (by assumption))))); rintro e w12 ⟨u12, rfl, hR12, hB12⟩; obtain ⟨A12, c12, rfl, hc12, hC12⟩ := hR12.reads; have hC13 := Kd.C_below hC11 hB12; clear hR12 hC11)
              | (go_at_call 10; refine Calls.mono (ids_calls A11 c11 F A12 c12 F _ hC13 hc11 hC12 hc12 hfl2) ?_; rintro e w13 ⟨he13, hB13⟩; rw [decide_eq_true rfl] at he13; subst he13))
            have hz13 : Hid (Below wr.heap.size wr w13) := And.right (And.right (And.right (by assumption)))
            go_wp2_with fail
            go_roundw
            case rel => exact ⟨i + 1, by omega, by go_num, HBr.out.trans (hz13.out.mono HBr.out.size)⟩
            case measure => simp [intOf]; omega
          · have hlt' : decide ((i : Int) < (E.length : Int)) = false := decide_eq_false (by omega)
            clear hBr
            have m1 : True := trivial
            go_wp2_with (clear m1; go_at_call 19; refine (sure_calls _).mono ?_; rintro e w12 ⟨rfl, hB12⟩)
            go_ret
            have b1 := HB10.out
            have b2 := b1.trans (HBr.out.mono b1.size)
            exact ⟨rfl, b2.trans (hB12.mono b2.size)⟩
end Go.Proofs.Ytcpaejdipohndaa.H

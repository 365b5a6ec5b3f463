/- The walk of the law WordsParts: the ids of all values make up the ids of all points that have one, each once. -/
import Derived.Test.YtcpaejdipohndaaVParts
import Derived.Test.YtcpaejdipohndaaVKinds
namespace Go.Proofs.Ytcpaejdipohndaa.H
open Go.RowKit Go.Lib Go.Proofs.YtcpaejdipohndaaW.PrintWords Go.Proofs.Ytcpaejdipohndaa.PAll Go.Proofs.Ytcpaejdipohndaa.V Go.Proofs.Ytcpaejdipohndaa.R
set_option linter.unusedVariables false
/-- While one value's ids are gone over: what was gathered, the value's ids, apart. -/
structure InP (W0 : World) (rv : Value) (xs : List Int) (u : Value) (F : List Int) (W : World) : Prop where
  a : RowI W W0.heap.size rv xs
  f : RowI W W0.heap.size u F
  n : ∀ k, rv.ownBlock = some k → u.ownBlock ≠ some k
  b : Below W0.heap.size W0 W
theorem InP.below {W0 W W' : World} {rv u : Value} {xs F : List Int} (h : InP W0 rv xs u F W) (hB : Below W.heap.size W W') : InP W0 rv xs u F W' :=
  ⟨h.a.below hB, h.f.below hB, h.n, h.b.trans (hB.mono h.b.size)⟩
theorem InP.appended {W0 W W' : World} {rv r' u : Value} {xs F : List Int} {x : Int} (h : InP W0 rv xs u F W) (hu : RowI W' W0.heap.size r' (xs ++ [x])) (hg : W.grownBy W' rv.ownBlock) (hat : ∀ k, r'.ownBlock = some k → some k = rv.ownBlock ∨ W.heap.size ≤ k) : InP W0 r' (xs ++ [x]) u F W' := by
  refine ⟨hu, h.f.kept hg (fun k hk e => h.n k e.symm hk), fun k hk e => ?_, Go.Proofs.Ytcpaejdipohndaa.V.below_grown h.b hg (fun k hk => h.a.base hk)⟩
  rcases hat k hk with e2 | e2
  · exact h.n k e2.symm e
  · have := h.f.lt e; omega
set_option maxRecDepth 100000 in
set_option maxHeartbeats 1000000 in
theorem wordsParts_walk (A : Option Addr) (c : Nat) (l : List Pt) (name : ByteArray) (W : World) (hC : Kd.C k33 W A l.length l) (hc : l.length ≤ c) (hA : AllG GPt l) (hs : name.size ≤ 1048576) :
    Calls Try.prog 5 #[.slice A l.length c, .string name] W fun e W' => e = .returned (.bool true) ∧ Below W.heap.size W W' := by
  have hl : l.length ≤ 1048576 := hA.1
  have hG := goodL_of hA
  have cb := build_calls A c l name W hC hc hl hG
  clear hC hA
  go_enter Try.func5, Try.ntmps5
  have m1 : True := trivial
  go_wp2_with (clear m1; go_at_call 8; refine cb.mono ?_; rintro e w1 ⟨x, rfl, hX, hB1⟩; have hX' := hX; obtain ⟨bx, bp, m, av, f, rfl, -⟩ := hX')
  have cv := values_calls hX hl (fun n h2 h5 => sorts_all swo_ltV n h2 (by omega))
  have m1 : True := trivial
  go_wp2_with (clear m1; go_at_call 16; refine cv.mono ?_; rintro e w2 ⟨u3, E, rfl, hR, hE, hB⟩; obtain ⟨A3, c3, rfl, hc3, hC3⟩ := Kd.R_reads hR; have HX := Lib.hid (hX.below hB); have HB := Lib.hid (hB1.trans (hB.mono hB1.size)); have HC3 := Lib.hid hC3; clear hX hB hB1 cv cb hR hC3)
  have HE := Lib.hid hE
  have hEl : E.length ≤ l.length := vals_le (hE.1.imp (fun hab e => by rw [e, swo_ltV.irrefl] at hab; cases hab)) (fun v hv => ((hE.2 v).1 hv).2)
  have HG := Lib.hid hG
  clear hE hG
  go_loopw [6, 8] (fun rx s wr => ∃ (rv : Value) (i : Nat), rv = rx ∧ i ≤ E.length ∧ s = .int .i64 i ∧ RowI wr w2.heap.size rv (flatI l name (E.take i)) ∧ Below w2.heap.size w2 wr) (fun _ s _ => E.length - (intOf s).toNat)
  case atStart => exact ⟨_, 0, rfl, Nat.zero_le _, rfl, RowI.nil _ _, Below.refl _ _⟩
  case round =>
    obtain ⟨rv, i, rfl, hi, rfl, hR, hBr⟩ := hrel
    have HR := Lib.hid hR
    have HBr := Lib.hid hBr
    by_cases hlt : i < E.length
    · have hlt' : decide ((i : Int) < (E.length : Int)) = true := decide_eq_true (by omega)
      obtain ⟨b0, o0, rfl, hb0, hcs⟩ := vals_of_C HC3.out (by omega)
      obtain ⟨v0, v1, v2⟩ := hcs i hlt
      have d0 := (hBr.cell (p := ⟨b0, o0 + i * 3, none⟩) hb0).trans v0
      have d1 := (hBr.cell (p := ⟨b0, o0 + i * 3 + 1, none⟩) hb0).trans v1
      have d2 := (hBr.cell (p := ⟨b0, o0 + i * 3 + 2, none⟩) hb0).trans v2
      have HCS := Lib.hid hcs
      have p1 := eq_true (show (0 : Int) ≤ (i : Int) by omega)
      have p2 := eq_true (show (i : Int) < (E.length : Int) by omega)
      have p3 : (i < E.length) = True := eq_true hlt
      have gv : GoodV E[i] := ((HE.out.2 _).1 (List.getElem_mem hlt)).1
      have cf := find_calls (HX.out.below hBr) hl gv
      have hFn : findL l name E[i] ≠ [] := ((HE.out.2 _).1 (List.getElem_mem hlt)).2
      have hFl : 0 < (findL l name E[i]).length := List.length_pos_iff.2 hFn
      have hFle := findL_le l name E[i]
      clear v0 v1 v2 hcs hBr hR hFn
      have m1 : True := trivial
      go_wp2_with (clear m1; go_at_call 11; refine cf.mono ?_; rintro e w3 ⟨u, rfl, hRF, hBF⟩)
      have hbs := HBr.out.size
      have hI : InP w2 rv (flatI l name (E.take i)) u (findL l name E[i]) w3 := ⟨HR.out.below hBF, hRF.lower hbs, fun k hk e => by have h1 := HR.out.lt hk; have h2 := hRF.base e; omega, HBr.out.trans (hBF.mono hbs)⟩
      obtain ⟨Af, cf2, rfl, hcf, -⟩ := hRF.reads
      have HI := Lib.hid hI
      clear hI hRF hBF cf
      have q0 : decide (((findL l name E[i]).length : Int) = 0) = false := decide_eq_false (by omega)
      have q1 : (((findL l name E[i]).length : Int) == 0) = false := beq_eq_false_iff_ne.2 (by omega)
      go_upto_region 10 with (fail)
      go_cut [49] (fun s wc => s = .bool false ∧ InP w2 rv (flatI l name (E.take i)) (.slice Af (findL l name E[i]).length cf2) (findL l name E[i]) wc)
      case first =>
        rcases Nat.eq_zero_or_pos i with hi0 | hi0
        · have g0 : decide ((i : Int) > 0) = false := decide_eq_false (by omega)
          have g1 : decide ((0 : Int) < (i : Int)) = false := decide_eq_false (by omega)
          have g2 : (0 < i) = False := eq_false (by omega)
          clear hi0
          go_wp2
          go_quiet (fail)
          go_wp2_with fail
          go_meet
          case rel => exact ⟨rfl, HI.out.below ⟨rfl, rfl, rfl, Nat.le_refl _, fun _ _ => rfl⟩⟩
        · have g0 : decide ((i : Int) > 0) = true := decide_eq_true (by omega)
          have g1 : decide ((0 : Int) < (i : Int)) = true := decide_eq_true (by omega)
          have hl2 : i - 1 < E.length := by omega
          obtain ⟨y0, y1, y2⟩ := HCS.out (i - 1) hl2
          have hw3 := HI.out.b
          have f0 := (hw3.cell (p := ⟨b0, o0 + (i - 1) * 3, none⟩) hb0).trans y0
          have f1 := (hw3.cell (p := ⟨b0, o0 + (i - 1) * 3 + 1, none⟩) hb0).trans y1
          have f2 := (hw3.cell (p := ⟨b0, o0 + (i - 1) * 3 + 2, none⟩) hb0).trans y2
          obtain ⟨v0, v1, v2⟩ := HCS.out i hlt
          have e0 := (hw3.cell (p := ⟨b0, o0 + i * 3, none⟩) hb0).trans v0
          have e1 := (hw3.cell (p := ⟨b0, o0 + i * 3 + 1, none⟩) hb0).trans v1
          have e2 := (hw3.cell (p := ⟨b0, o0 + i * 3 + 2, none⟩) hb0).trans v2
          have r1 := eq_true (show (0 : Int) ≤ (i : Int) - 1 by omega)
          have r2 := eq_true (show (i : Int) - 1 < (E.length : Int) by omega)
          have r3 : (i - 1 < E.length) = True := eq_true hl2
          have r4 : ((i : Int) - 1).toNat = i - 1 := by omega
          have r5 : IntKind.i64.wrap ((i : Int) - 1) = (i : Int) - 1 := IntWalk.i64_in _ (by omega)
          have r8 : (0 < i) = True := eq_true hi0
          have r6 : (1 ≤ i) = True := eq_true hi0
          have r7 := eq_true (show (1 : Int) ≤ (i : Int) by omega)
          have hcm := cmp_rise HE.out hi0 hlt
          have cc := fun W' => cmp5_calls E[i - 1] E[i] W'
          clear y0 y1 y2 v0 v1 v2 hw3
          have hcm2 : decide (cmpV E[i - 1] E[i] ≥ 0) = false := decide_eq_false (by omega)
          have hcm3 : decide (0 ≤ cmpV E[i - 1] E[i]) = false := decide_eq_false (by omega)
          refine still_tail 16 (by kernel_rfl) (by kernel_rfl) ?_
          simp only [List.take_succ_cons, List.take_zero, List.drop_succ_cons, List.drop_zero]
          still_step
          still_step
          still_step
          still_step
          still_step
          still_step
          still_step
          still_step
          still_step
          still_step
          still_step
          still_step
          still_step
          still_step
          still_step
          still_step
          refine wpStill_nil ?_
          go_wp2_with (go_at_call 20; refine (cc _).mono ?_; rintro e w4 ⟨rfl, hB4⟩)
          go_meet
          case rel => exact ⟨rfl, (HI.out.below (W' := w3.drew) ⟨rfl, rfl, rfl, Nat.le_refl _, fun _ _ => rfl⟩).below hB4⟩
      case rest =>
        obtain ⟨rfl, hI⟩ := hcut
        clear HI q0 q1 d0 d1 d2
        have hFle2 : (findL l name E[i]).length ≤ 1048576 := by omega
        have hxs := flat_le HE.out i
        have HNew : Hid (∀ k (hk : k < (findL l name E[i]).length), (findL l name E[i])[k] ∉ flatI l name (E.take i) ++ (findL l name E[i]).take k) := Lib.hid (fun k hk => flat_new HE.out hlt hk)
        have HLast : Hid (flatI l name (E.take (i + 1)) = flatI l name (E.take i) ++ findL l name E[i]) := Lib.hid (by rw [List.take_succ_eq_append_getElem hlt]; unfold flatI; rw [List.flatMap_append]; simp)
        have hz2 : (flatI l name (E.take (i + 1))).length ≤ l.length := flat_le HE.out (i + 1)
        rw [HLast.out, List.length_append] at hz2
        clear HR
        generalize findL l name E[i] = F at *
        generalize flatI l name (E.take i) = xs at *
        go_wp2_with fail
        go_loopw [6, 10] (fun rx s wr => ∃ (rv : Value) (k : Nat), rv = rx ∧ k ≤ F.length ∧ s = .int .i64 k ∧ InP w2 rv (xs ++ F.take k) (.slice Af F.length cf2) F wr) (fun _ s _ => F.length - (intOf s).toNat)
        case atStart => exact ⟨_, 0, rfl, Nat.zero_le _, rfl, by simpa using hI⟩
        case round =>
          clear hI
          obtain ⟨rv2, k, rfl, hk, rfl, hI⟩ := hrel
          by_cases hkF : k < F.length
          · have hkF' : decide ((k : Int) < (F.length : Int)) = true := decide_eq_true (by omega)
            have hal : (xs ++ F.take k).length ≤ 1048576 := by rw [List.length_append, List.length_take]; omega
            have hnew := HNew.out k hkF
            have HTk : Hid (xs ++ F.take (k + 1) = xs ++ F.take k ++ [F[k]]) := Lib.hid (by rw [List.take_succ_eq_append_getElem hkF, List.append_assoc])
            have hget : F.getD k 0 = F[k] := by rw [List.getD, List.getElem?_eq_getElem hkF]; rfl
            generalize xs ++ F.take k = ys at *
            obtain ⟨Ag, cg, eg, hcg, hCF⟩ := hI.f.reads
            cases eg
            obtain ⟨b1, o1, rfl, hb1, hcs1⟩ := ints_of_C hCF (by omega)
            obtain ⟨Aa, ca, rfl, hca, hCA⟩ := hI.a.reads
            have d0 := hcs1 k hkF
            rw [hget] at d0
            clear hget
            generalize F[k] = fk at *
            have ch := has_calls Aa ca ys fk wr hCA hca (by omega)
            rw [decide_eq_false hnew] at ch
            have p1 := eq_true (show (0 : Int) ≤ (k : Int) by omega)
            have p2 := eq_true (show (k : Int) < (F.length : Int) by omega)
            have p3 : (k < F.length) = True := eq_true hkF
            have hI2 := hI.below ((Below.refl _ wr).alloc (Nat.le_refl _) (.cells #[.int .i64 fk] 3))
            have hnb := World.alloc_heap_new wr (.cells #[.int .i64 fk] 3)
            have hra := hI2.a
            have hbase := hI2.b.size
            have HI2 := Lib.hid hI2
            clear hI hI2 hCF hcs1 hCA hnew
            go_wp2_with (first | (go_at_call 21; refine ch.mono ?_; rintro e w5 ⟨rfl, hw5⟩; rw [hw5]; clear hw5) | ((with_reducible refine gate_builtin (b := .append) (xs := #[.tmp 62, .tmp 67]) rfl ?_); at_builtin; refine wpList_append_i (W := wr.alloc (.cells #[.int .i64 fk] 3)) (base := w2.heap.size) (g := wr.heap.size) (r := .slice Aa ys.length ca) (xs := ys) (x := fk) rfl (.tmp 62) (.tmp 67) rfl rfl rfl hnb hra hbase hal ?_; intro r' w8 hu hg8 hat8; have HJ := Lib.hid (HI2.out.appended hu hg8 hat8); clear hu hg8 hat8))
            go_roundw
            case rel => exact ⟨r', k + 1, rfl, by omega, by go_num, by rw [HTk.out]; exact HJ.out⟩
            case measure => simp [intOf]; omega
          · have hkF' : decide ((k : Int) < (F.length : Int)) = false := decide_eq_false (by omega)
            obtain rfl : k = F.length := by omega
            rw [List.take_length] at hI
            have HI := Lib.hid hI
            clear hI
            go_wp2_with fail
            go_roundw
            case rel => exact ⟨rv2, i + 1, rfl, by omega, by go_num, by rw [HLast.out]; exact HI.out.a, HI.out.b⟩
            case measure => simp [intOf]; omega
    · have hlt' : decide ((i : Int) < (E.length : Int)) = false := decide_eq_false (by omega)
      obtain rfl : i = E.length := by omega
      have hR2 := HR.out
      rw [List.take_length] at hR2
      have hxl : (flatI l name E).length ≤ 1048576 := by have := flat_le HE.out E.length; rw [List.take_length] at this; omega
      obtain ⟨Aa, ca, rfl, hca, hCA⟩ := hR2.reads
      have hU := flat_union HG.out HE.out
      have hN := flat_len HG.out HE.out
      have cs := Go.Proofs.Ytcpaejdipohndaa.V.set_calls Aa ca (flatI l name E) wr hCA hca hxl
      rw [hU] at cs
      have hXr := HX.out.below hBr
      have HXr := Lib.hid hXr
      have HN := Lib.hid hN
      clear hR hR2 HR hXr hCA hU hN
      have m1 : True := trivial
      go_wp2_with (clear m1; go_at_call 22; refine cs.mono ?_; rintro e w5 ⟨u, rfl, hR5, hB5⟩; obtain ⟨A5, c5, rfl, hc5, hC5⟩ := hR5.reads)
      have hX5 := HXr.out.below hB5
      have ca5 := any_calls hX5 hl
      have HX5 := Lib.hid hX5
      clear hX5 cs
      have m1 : True := trivial
      go_wp2_with (clear m1; go_at_call 13; refine ca5.mono ?_; rintro e w6 ⟨u, rfl, hR6, hB6⟩; obtain ⟨A6, c6, rfl, hc6, hC6⟩ := hR6.reads)
      have hle := anyL_le l name
      have ci := ids_calls A5 c5 (anyL l name) A6 c6 (anyL l name) w6 (Kd.C_below hC5 hB6) hc5 hC6 hc6 (by omega)
      rw [decide_eq_true rfl] at ci
      have m1 : True := trivial
      go_wp2_with (clear m1; go_at_call 10; refine ci.mono ?_; rintro e w7 ⟨rfl, hB7⟩)
      have cl := len_calls ((HX5.out.below hB6).below hB7)
      rw [← HN.out] at cl
      have m1 : True := trivial
      go_wp2_with (clear m1; go_at_call 18; refine cl.mono ?_; rintro e w8 ⟨rfl, rfl⟩)
      have m1 : True := trivial
      go_wp2_with (clear m1; go_at_call 19; refine (sure_calls w8).mono ?_; rintro e w9 ⟨rfl, hB9⟩)
      go_ret
      have b1 := HB.out
      have s1 := b1.size
      have b2 := b1.trans (HBr.out.mono s1)
      have b3 := b2.trans (hB5.mono b2.size)
      have b4 := b3.trans (hB6.mono b3.size)
      have b5 := b4.trans (hB7.mono b4.size)
      exact ⟨rfl, b5.trans (hB9.mono b5.size)⟩
end Go.Proofs.Ytcpaejdipohndaa.H

/- stats.Build: how many values and words there are, the buckets of the sorted values, and the hashes of the words, each once, rising, with how often it stands there; in new memory. At most 1048576 values, words, and bytes a word. -/
import Derived.Test.YtihanpdfnpgnfaaSMid
import Derived.Deep.RegionLaw
import Derived.Deep.LoopGhost
import Derived.Maps.OwnOps
import Derived.Maps.RangeWalk
import Derived.Test.YtihanpdfnpgnfaaWWords
import Derived.Test.YtihanpdfnpgnfaaWMore
namespace Go.Proofs.Ytihanpdfnpgnfaa.H
open Go.RowKit Go.Sort Go.Shelf Go.Lib Go.Maps Go.Proofs.YtihanpdfnpgnfaaW.PrintWords Go.Proofs.YtihanpdfnpgnfaaW.PrintLast Go.Proofs.YtihanpdfnpgnfaaW.PrintMore Go.Proofs.Ytihanpdfnpgnfaa.PAll
set_option linter.unusedVariables false
attribute [local go_sem] max2_int min2_int

theorem law3 : Keyed Try.prog 3 := int_keyed Try.underlying3
theorem zero3 (w : World) : (zeroValue 3).run Try.prog w = .ok (.int .i64 0) w := by kernel_rfl
theorem strs_of_C {w : World} {A : Option Addr} {xs : List ByteArray} (h : Kd.C Kd.string w A xs.length xs) (hn : 0 < xs.length) :
    ∃ b off, A = some ⟨b, off, none⟩ ∧ b < w.heap.size ∧ ∀ j, j < xs.length → w.cell? ⟨b, off + j, none⟩ = some (.string (xs.getD j ByteArray.empty)) := by
  obtain ⟨ad, rfl, hc⟩ := (Kd.reads_of_C (d := ByteArray.empty) h).2.2 hn
  obtain ⟨b, off, sp⟩ := ad
  have h0 := hc 0 hn
  have hsp : sp = none := by
    cases sp with
    | none => rfl
    | some s =>
      simp only [Addr.add, if_true, World.cell?] at h0
      split at h0 <;> simp at h0
  subst hsp
  have hall : ∀ j, j < xs.length → w.cell? ⟨b, off + j, none⟩ = some (.string (xs.getD j ByteArray.empty)) := fun j hj => by
    have := hc j hj
    unfold Addr.add at this
    split at this
    · next hj0 => subst hj0; exact this
    · exact this
  exact ⟨b, off, rfl, cell_lt (off := off + 0) (hall 0 hn), hall⟩
theorem take_hash {l : List ByteArray} {k : Nat} (h : k < l.length) : (l.map hashOf).take (k + 1) = (l.map hashOf).take k ++ [hashOf (l.getD k ByteArray.empty)] := by
  rw [List.take_succ_eq_append_getElem (by simpa using h), List.getElem_map, List.getD, List.getElem?_eq_getElem h]; rfl
theorem ne_map {α : Type} {d : Kd α} {e base gm n : Nat} {ok : Nat → Prop} {W : World} {v : Value} {xs : List α} {D : DataW Unit} {k : TypeId} {R : Value → Option (DataW Unit × List MemPlace)} (h : d.R e W base ok v xs) (ho : W.ownsMap Try.prog k R gm n D) : ∀ j, v.ownBlock = some j → some gm ≠ some j := by
  rintro j hj he
  obtain ⟨_, _, cells, hc⟩ := R_lo h j hj
  obtain ⟨es, clock, hb, _⟩ := ho
  injection he with he
  subst he
  rw [hc] at hb
  cases hb
theorem ne_rows {α β : Type} {d : Kd α} {d' : Kd β} {e e' base base' : Nat} {ok ok' : Nat → Prop} {W : World} {v v' : Value} {xs : List α} {ys : List β} (h : d.R e W base ok v xs) (h' : d'.R e' W base' ok' v' ys) (hne : e ≠ e') : ∀ k, v.ownBlock = some k → v'.ownBlock ≠ some k := by
  intro k hk hk'
  obtain ⟨_, _, c1, h1⟩ := R_lo h k hk
  obtain ⟨_, _, c2, h2⟩ := R_lo h' k hk'
  rw [h1] at h2
  injection h2 with h2
  injection h2 with _ h2
  exact hne h2
theorem ne_iter {α : Type} {d : Kd α} {e base gm r n cnt : Nat} {ok : Nat → Prop} {W : World} {v : Value} {xs : List α} {D : DataW Unit} {k : TypeId} {R : Value → Option (DataW Unit × List MemPlace)} {left : Lit → Bool} (h : d.R e W base ok v xs) (ho : W.ranges Try.prog k R gm r n D left cnt) : ∀ j, v.ownBlock = some j → some r ≠ some j := by
  rintro j hj he
  obtain ⟨_, _, cells, hc⟩ := R_lo h j hj
  obtain ⟨es, clock, since, seen, c0, _, _, _, _, hb, _⟩ := ho
  injection he with he
  subst he
  rw [hc] at hb
  cases hb
theorem grown_set (W : World) (b j : Nat) (v : Value) : W.grownBy (W.setCell ⟨b, j, none⟩ v) (some b) :=
  ⟨rfl, rfl, rfl, by simp [World.setCell], fun k _ hk => Below.heap_setCell _ _ _ k (fun e => hk (by rw [e]))⟩
def bks (l : List Int) (a : Int) : List S36 := if l.length = 0 then [] else (List.range (max 1 (min a (l.length : Int))).toNat).map fun j => bkt (partOf (l.mergeSort fun x y => decide (x ≤ y)) (max 1 (min a (l.length : Int))).toNat j)
def BOut (w : World) (cnt : Int) (bs : List S36) (es : List S41) (e : Ending) (w' : World) : Prop := ∃ v v' : Value, e = .returned (.agg #[.int .i64 cnt, v, v']) ∧ Kd.R k36 36 w' w.heap.size (fun _ => True) v bs ∧ Kd.R k41 41 w' w.heap.size (fun _ => True) v' es ∧ Below w.heap.size w w'
theorem bout_end {w W : World} {cnt : Int} {bv wv : Value} {bs bs' : List S36} {es es' : List S41} (hb : bs' = bs) (he : es' = es) (hM : MidB w cnt bv wv bs W) (hR : Kd.R k41 41 W (w.heap.size + 2) (fun _ => True) wv es) :
    BOut w cnt bs' es' (.returned (.agg #[.int .i64 cnt, bv, wv])) (((W.setCell ⟨w.heap.size, 0, none⟩ (.int .i64 cnt)).setCell ⟨w.heap.size, 1, none⟩ bv).setCell ⟨w.heap.size, 2, none⟩ wv) := by
  subst hb he
  have f0 := hM.f6
  have f1 := blk_set f0 0 (.int .i64 cnt)
  have f2 := blk_set f1 1 bv
  refine ⟨bv, wv, rfl, Kd.R_lower (Kd.R_set (Kd.R_set (Kd.R_set hM.R f0 (by decide) 0 _) f1 (by decide) 1 _) f2 (by decide) 2 _) (by omega), Kd.R_lower (Kd.R_set (Kd.R_set (Kd.R_set hR f0 (by decide) 0 _) f1 (by decide) 1 _) f2 (by decide) 2 _) (by omega), ?_⟩
  exact ((hM.B.setCell (by exact Nat.le_refl _) _).setCell (by exact Nat.le_refl _) _).setCell (by exact Nat.le_refl _) _
def toP (e : S41) : Int × Int := (e.f0, e.f1)
def ofP (p : Int × Int) : S41 := ⟨p.1, p.2⟩
theorem R41_own {base : Nat} {ok : Nat → Prop} {W : World} {v : Value} {E : List S41} (h : Kd.R k41 41 W base ok v E) : W.ownsRow base 41 2 v (E.map toP).length (flatE (E.map toP)) := by
  obtain ⟨_, inner, ho, hr⟩ := h
  have : inner = flatE (E.map toP) := by
    clear ho
    apply List.ext_getElem?
    intro j
    have hl : inner.length = E.length * 2 := hr.1
    by_cases hj : j < E.length * 2
    · have h2 : j / 2 < E.length := by omega
      have h3 := hr.2 (j / 2) E[j / 2] (List.getElem?_eq_getElem h2)
      have h4 := k41_openM h3
      rw [flatE_get _ _ (by simpa using hj)]
      have h5 : ((inner.drop (j / 2 * k41.sz)).take k41.sz)[j % 2]? = inner[j]? := by
        have e2 : k41.sz = 2 := rfl
        rw [e2, List.getElem?_take_of_lt (by omega), List.getElem?_drop]
        congr 1
        omega
      rw [← h5, h4]
      have h6 : (E.map toP).toArray[j / 2]! = toP E[j / 2] := by simp [h2]
      rw [h6]
      rfl
    · rw [List.getElem?_eq_none (by omega), List.getElem?_eq_none (by rw [flatE_len]; simp; omega)]
  subst this
  rw [List.length_map]
  exact ho
theorem own_R41 {base : Nat} {W : World} {v : Value} {n : Nat} {E : List (Int × Int)} (hn : n = E.length) (h : W.ownsRow base 41 2 v n (flatE E)) : Kd.R k41 41 W base (fun _ => True) v (E.map ofP) := by
  subst hn
  refine ⟨fun _ _ => trivial, flatE E, (by rw [List.length_map]; exact h), ?_⟩
  clear h
  induction E with
  | nil => exact Reps.none _ _
  | cons a r ih => exact Reps.front (c := [.int .i64 a.1, .int .i64 a.2]) (k41_mkM _ _ _ (ofP a)) rfl ih (by simp [flatE, encE])
theorem nodup_len : ∀ (l hs : List Int), l.Nodup → (∀ x ∈ l, x ∈ hs) → l.length ≤ hs.length := by
  intro l
  induction l with
  | nil => intro hs _ _; simp
  | cons a r ih =>
    intro hs hn hm
    rw [List.nodup_cons] at hn
    have ha := hm a (by simp)
    have := ih (hs.erase a) hn.2 (fun x hx => (List.mem_erase_of_ne (fun e => hn.1 (by rw [← e]; exact hx))).2 (hm x (by simp [hx])))
    rw [List.length_erase_of_mem ha] at this
    have : 0 < hs.length := List.length_pos_of_mem ha
    simp
    omega
theorem Coll.len {hs : List Int} {left : Lit → Bool} {E : List S41} (C : Coll hs left E) {n : Nat} (hn : hs.length ≤ n) : E.length ≤ n := by
  have h1 := nodup_len (E.map (·.f1)) hs C.n (fun x hx => by
    obtain ⟨e, he, rfl⟩ := List.mem_map.1 hx
    exact (C.a e he).1)
  simp at h1
  omega

set_option maxRecDepth 100000 in
set_option maxHeartbeats 1000000 in
theorem build_calls (A0 : Option Addr) (c0 : Nat) (l0 : List Int) (A1 : Option Addr) (c1 : Nat) (l1 : List ByteArray) (a2 : Int) (w : World) (hr0 : Kd.C (Kd.int .i64) w A0 l0.length l0) (hr1 : Kd.C Kd.string w A1 l1.length l1)
    (hn0 : l0.length ≤ 1048576) (hn1 : l1.length ≤ 1048576) (hs1 : ∀ s ∈ l1, s.size ≤ 1048576) :
    Calls Try.prog 7 #[.slice A0 l0.length c0, .slice A1 l1.length c1, .int .i64 a2] w (BOut w (l0.length + l1.length : Int) (bks l0 a2) (ents (l1.map hashOf))) := by
  have hmm := @run_makeMap Try.prog
  have Hs1 := Lib.hid hs1
  clear hs1
  go_enter Try.func7, Try.ntmps7
  go_wp2_with fail
  refine (values_calls _ _ _ _).mono ?_
  rintro e w1 ⟨rfl, rfl⟩
  go_wp2_with fail
  refine (sorted_calls _ w.heap.size (.slice A0 l0.length c0) l0 (by omega) _ (by simp) (by simp; omega) (by have ct := cell_top ((w.alloc (.cells #[.int .i64 0, .slice none 0 0, .slice none 0 0] 27)).alloc (.cells #[.int .i64 (l0.length + l1.length : Int), .slice none 0 0, .slice none 0 0] 27)) (.slice A0 l0.length c0) 22; simp only [World.size_alloc] at ct; exact ct) ((Ints.of_C hr0).below (((((Below.refl _ w).alloc (Nat.le_refl _) _).alloc (by simp) _).alloc (by simp; omega) _)))).mono ?_
  rintro e w2 ⟨v, rfl, ho, hB⟩
  obtain ⟨W0, hW0⟩ : ∃ W0, ((w.alloc (.cells #[.int .i64 0, .slice none 0 0, .slice none 0 0] 27)).alloc (.cells #[.int .i64 (l0.length + l1.length : Int), .slice none 0 0, .slice none 0 0] 27)) = W0 := ⟨_, rfl⟩
  have hz0 : W0.heap.size = w.heap.size + 2 := by rw [← hW0]; simp
  have e6 : W0.heap[w.heap.size]? = some (.cells #[.int .i64 0, .slice none 0 0, .slice none 0 0] 27 (0, 0)) := by
    rw [← hW0]; exact (Below.heap_alloc _ _ _ (by simp)).trans (World.alloc_heap_new w _)
  have e7 : W0.heap[w.heap.size + 1]? = some (.cells #[.int .i64 (l0.length + l1.length : Int), .slice none 0 0, .slice none 0 0] 27 (0, 0)) := by
    rw [← hW0]; have := World.alloc_heap_new (w.alloc (.cells #[.int .i64 0, .slice none 0 0, .slice none 0 0] 27)) (.cells #[.int .i64 (l0.length + l1.length : Int), .slice none 0 0, .slice none 0 0] 27); rwa [World.size_alloc] at this
  have hB0 : Below w.heap.size w W0 := by rw [← hW0]; exact ((Below.refl _ w).alloc (Nat.le_refl _) _).alloc (by simp) _
  rw [hW0] at ho hB
  clear hW0
  have hB1 : Below W0.heap.size W0 (W0.alloc (.cells #[.slice A0 l0.length c0] 22)) := (Below.refl _ _).alloc (Nat.le_refl _) _
  have hB2 : Below W0.heap.size W0 w2 := hB1.trans (hB.mono (by simp))
  have ho2 := own_weaken ho (base' := W0.heap.size) (by simp)
  clear ho hB hB1
  have hl : (l0.mergeSort fun x y => decide (x ≤ y)).length = l0.length := by simp
  generalize hls : (l0.mergeSort fun x y => decide (x ≤ y)) = ls at ho2 hl
  have Hls := Lib.hid hls
  clear hls
  have Hl := Lib.hid hl
  clear hl
  have e6' := (hB2.block _ (by omega)).trans e6
  have e7' := (hB2.block _ (by omega)).trans e7
  have hB3 := hB0.trans (hB2.mono (by omega))
  have hz2 := hB2.size
  rw [hz0] at hz2 ho2
  clear e6 e7 hB0 hB2 hz0
  obtain ⟨a, c, rfl⟩ := own_slice ho2
  by_cases hnz : 0 < l0.length
  · have hnz' : decide ((0 : Int) < (l0.length : Int)) = true := decide_eq_true (by omega)
    obtain ⟨b, hb, hb1, hbn⟩ : ∃ b : Nat, max 1 (min a2 (l0.length : Int)) = (b : Int) ∧ 1 ≤ b ∧ b ≤ l0.length := ⟨(max 1 (min a2 (l0.length : Int))).toNat, by omega, by omega, by omega⟩
    have hb' := Lib.hid hb
    clear hb
    go_wp2_with fail
    rw [hb'.out]
    have hM0 : MidB w (l0.length + l1.length : Int) (.slice none 0 0) (.slice none 0 0) [] w2 := ⟨e6', e7', Kd.R_nil _ _ _ _ _, hB3, hz2⟩
    clear e6' e7' hB3 hz2
    go_loopw [37] (fun s wr => ∃ (i : Nat) (bv : Value), i ≤ b ∧ s = .int .i64 i ∧ MidB w (l0.length + l1.length : Int) bv (.slice none 0 0) ((List.range i).map fun j => bkt (partOf ls b j)) wr ∧
        wr.ownsRow (w.heap.size + 2) 3 1 (.slice a l0.length c) l0.length (ls.map I64)) (fun s _ => b - (intOf s).toNat)
    case atStart => exact ⟨0, .slice none 0 0, by omega, rfl, hM0, ho2⟩
    case round =>
      clear hM0 ho2
      obtain ⟨i, bv, hib, rfl, hM, ho⟩ := hrel
      by_cases hlt : i < b
      · have hlt' : decide ((i : Int) < (b : Int)) = true := decide_eq_true (by omega)
        go_wp2_with fail
        go_quiet (fail)
        go_wp2_with fail
        have hbn' : i * l0.length ≤ 1048576 * 1048576 := Nat.mul_le_mul (by omega) hn0
        have hbn2 : (i + 1) * l0.length ≤ 1048577 * 1048576 := Nat.mul_le_mul (by omega) hn0
        have hq1 : wrap64 ((wrap64 ((i : Int) * (l0.length : Int))).tdiv (b : Int)) = ((i * l0.length / b : Nat) : Int) := by
          rw [← Int.natCast_mul, wrap_nat _ (by omega), Int.tdiv_eq_ediv_of_nonneg (by omega), ← Int.natCast_ediv, wrap_nat]
          exact Nat.lt_of_le_of_lt (Nat.div_le_self _ _) (by omega)
        have hq2 : wrap64 ((wrap64 (((i : Int) + 1) * (l0.length : Int))).tdiv (b : Int)) = (((i + 1) * l0.length / b : Nat) : Int) := by
          rw [show (i : Int) + 1 = ((i + 1 : Nat) : Int) by omega, ← Int.natCast_mul, wrap_nat _ (by omega), Int.tdiv_eq_ediv_of_nonneg (by omega), ← Int.natCast_ediv, wrap_nat]
          exact Nat.lt_of_le_of_lt (Nat.div_le_self _ _) (by omega)
        have hft : i * l0.length / b < (i + 1) * l0.length / b := by
          rw [Nat.add_mul, Nat.one_mul]
          exact cut_lt (by omega) hbn
        have htn : (i + 1) * l0.length / b ≤ l0.length := by
          apply Nat.div_le_of_le_mul
          exact Nat.mul_le_mul_right _ (by omega)
        rw [hq1, hq2]
        clear hq1 hq2 hbn' hbn2
        have hpart : partOf ls b i = (ls.drop (i * l0.length / b)).take ((i + 1) * l0.length / b - i * l0.length / b) := by unfold partOf; rw [Hl.out]
        generalize i * l0.length / b = f at hft hpart ⊢
        generalize (i + 1) * l0.length / b = t at hft htn hpart ⊢
        have ho' : (wr.drewN nq).ownsRow (w.heap.size + 2) 3 1 (.slice a l0.length c) l0.length (ls.map I64) := ho
        have hM' := hM.drewN nq
        clear ho hM
        generalize wr.drewN nq = wr at *
        obtain ⟨g, rfl, htc, hlen, hC⟩ := C_cut ho' hft htn hn0
        obtain ⟨kb, hkb⟩ := bucket_ex (partOf ls b i) (by rw [hpart, hlen]; omega) (by rw [hpart, hlen]; omega)
        have CB := stats_bucket.calls kb (some ⟨g, f, none⟩) (t - f) (partOf ls b i) _ _ _ _ wr.drew (Kd.C_drew (by rw [hpart, hlen]; exact hC)) (by rw [hpart, hlen]; exact Nat.le_refl _) hkb
        have hcs := hM'.c1
        have HPL : Hid ((partOf ls b i).length = t - f) := Lib.hid (by rw [hpart, hlen])
        have hz := hM'.z
        clear hpart hlen hC hkb
        rw [HPL.out] at CB
        generalize hx : bkt (partOf ls b i) = x at CB
        have Hx := Lib.hid hx
        clear hx
        have p1 : (0 : Int) ≤ (f : Int) := by omega
        have p2 : (f : Int) ≤ (t : Int) := by omega
        have p3 : (t : Int) ≤ (c : Int) := by omega
        have p4 : ¬ t = f := by omega
        go_region_law (first
          | (go_simp; refine CB.mono ?_; rintro e W1 ⟨rfl, hB1⟩; have k0 : wr.heap.size ≤ W1.heap.size := hB1.size; have k1 : W1.cell? ⟨w.heap.size + 1, 1, none⟩ = some bv := (hB1.cell (p := ⟨w.heap.size + 1, 1, none⟩) (by first | omega | (simp; omega) | (simp; done))).trans hcs; have k2 : ∀ o, (W1.alloc o).cell? ⟨w.heap.size + 1, 1, none⟩ = some bv := (fun o => (((Below.refl W1.heap.size W1).alloc (Nat.le_refl _) o).cell (p := ⟨w.heap.size + 1, 1, none⟩) (by show w.heap.size + 1 < W1.heap.size; omega)).trans k1); dsimp only)
          | (refine Kd.R_append_step k36 (w0 := wr.drew) (W := W1) (w.heap.size + 2) rfl (.tmp 52) (.tmp 59) 24 36 (.agg #[.int .i64 0, .int .i64 0, .int .i64 0, .int .i64 0]) 32 rfl Try.underlying24 infoB rfl (by decide) (by decide) bv _ x [.int .i64 x.f0, .int .i64 x.f1, .int .i64 x.f2, .int .i64 x.f3] (fun _ => True) (fun _ => False) ?e1 ?e2 (k36_mkM _ _ _ x) (fun _ h => h.elim) (fun _ _ => trivial) (Kd.R_below (w := wr.drew) hM'.R hB1) (hB1.mono (by first | omega | (simp; omega) | (simp; done))) (by omega) (by first | omega | (simp; omega) | (simp; done)) ?_; (case e1 => go_simp); (case e2 => go_simp); intro v1 w1 hR1 hb1 hg1 hat1; obtain ⟨A9, c9, rfl⟩ := Kd.R_slice hR1; obtain ⟨q1, _, q2⟩ := hM'.app (W1 := W1) ⟨hB1.os, hB1.tape, hB1.output, hB1.size, hB1.block⟩ hg1 (fun k e => (R_lo hM'.R k e).1)))
        all_goals
          have hBw : Below wr.heap.size wr W1 := ⟨hB1.os, hB1.tape, hB1.output, hB1.size, hB1.block⟩
          have r1 := hM'.pushB hBw hg1 hR1
          have r2 := own_push (v9 := .slice A9 ((List.range i).map (fun j => bkt (partOf ls b j)) ++ [x]).length c9) hM' ho' hBw hg1
          have hl9 : ((List.range i).map (fun j => bkt (partOf ls b j)) ++ [x]).length = i + 1 := by simp
          rw [hl9] at r1 r2
          go_wp2_with fail
          go_roundw
          case rel => exact ⟨i + 1, _, by omega, by go_num, by rw [List.range_succ, List.map_append, List.map_singleton, Hx.out]; exact r1, r2⟩
          case measure => simp [intOf]; omega
      · have hlt' : decide ((i : Int) < (b : Int)) = false := decide_eq_false (by omega)
        obtain rfl : i = b := by omega
        clear ho
        have Hbs : Hid (bks l0 a2 = (List.range i).map fun j => bkt (partOf ls i j)) := Lib.hid (by unfold bks; rw [if_neg (by omega), Hls.out, hb'.out]; rfl)
        generalize ((List.range i).map fun j => bkt (partOf ls i j)) = bs at hM Hbs
        go_wp2_with fail
        have hown := World.ownsMap_made wr Try.prog 3 (plainElem (H := Unit) Try.prog 3)
        have hM1 := hM.below ((Below.refl _ wr).alloc (Nat.le_refl _) (.map #[] 0))
        have hgm : w.heap.size + 2 ≤ wr.heap.size := hM.z
        clear hM
        generalize hgm' : wr.heap.size = gm at hown hgm ⊢
        generalize wr.alloc (.map #[] 0) = W0 at hown hM1 ⊢
        clear hgm'
        go_loopw [66] (fun s W => ∃ (k : Nat) (D : DataW Unit), k ≤ l1.length ∧ s = .int .i64 k ∧ MidB w (l0.length + l1.length : Int) bv (.slice none 0 0) bs W ∧ W.ownsMap Try.prog 3 (plainElem Try.prog 3) gm k D ∧ MapIs D ((l1.map hashOf).take k)) (fun s _ => l1.length - (intOf s).toNat)
        case atStart => exact ⟨0, _, Nat.zero_le _, rfl, hM1, hown, MapIs.nil⟩
        case round =>
          clear hown hM1
          obtain ⟨k, D, hk, rfl, hM, hown, hMI⟩ := hrel
          by_cases hlt : k < l1.length
          · have hlt' : decide ((k : Int) < (l1.length : Int)) = true := decide_eq_true (by omega)
            obtain ⟨bs1, off1, rfl, hbl, hcs⟩ := strs_of_C hr1 (by omega)
            have hcx := (hM.B.cell (p := ⟨bs1, off1 + k, none⟩) hbl).trans (hcs k hlt)
            have hsz : (l1.getD k ByteArray.empty).size ≤ 4611686018427387904 := by
              have : l1.getD k ByteArray.empty ∈ l1 := by rw [List.getD, List.getElem?_eq_getElem hlt]; exact List.getElem_mem hlt
              have := Hs1.out _ this
              omega
            have Htk := Lib.hid (take_hash hlt)
            clear hcs
            generalize l1.getD k ByteArray.empty = s at hcx hsz Htk
            have hkey : keyOf Try.prog 3 (.int .i64 (hashOf s)) = some (.int .i64 (hashOf s)) := keyOf_int_mk Try.underlying3 (wrap64_wf _)
            have hne := ne_map hM.R hown
            go_wp2_with (first
              | (go_at_call 20; refine (hash_calls s hsz _).mono ?_; rintro e W1 ⟨rfl, hB1⟩; have hown1 := hown.kept (grown_of_below hB1) (by simp); have hM1 := hM.below hB1)
              | (at_lookup; refine wpList_lookup_own_int _ rfl _ _ 49 rfl 3 3 .i64 law3 Try.underlying49 Try.underlying3 (zero3 _) gm k D rfl hown1 _ _ rfl hkey ?_; intro c hat hwc)
              | (at_mapUpdate; refine wpList_mapUpdate_own _ rfl _ _ _ 49 rfl 3 3 law3 Try.underlying49 _ gm k D rfl hown1 (by unfold maxLen; omega) _ _ _ rfl rfl hkey _ [] (plainElem_int Try.underlying3 (wrap64_wf _)) ?_; intro w2 hown2 hgrow2))
            go_roundw
            case rel => exact ⟨k + 1, _, by omega, by go_num, hM1.grown hgrow2 (fun j e => by cases e; exact hgm) hne, hown2, by rw [Htk.out]; exact hMI.step hat (by simp; omega)⟩
            case measure => simp [intOf]; omega
          · have hlt' : decide ((k : Int) < (l1.length : Int)) = false := decide_eq_false (by omega)
            obtain rfl : k = l1.length := by omega
            rw [List.take_of_length_le (by simp)] at hMI
            go_wp2_with (first
              | (at_range; refine wpList_range_own _ rfl _ 49 rfl 3 3 law3 Try.underlying49 _ gm _ D rfl hown ?_; intro w0 hrg0 hg0 hs0)
              | fail)
            go_frame
            have hM2 := hM.grown hg0 (fun k e => by cases e) (fun k _ e => by cases e)
            have hrr : w.heap.size + 2 ≤ wr.heap.size := hM.z
            clear hM hown hg0 hs0
            generalize wr.heap.size = r at hrg0 hrr ⊢
            go_loopw [17] (fun _ W => ∃ (left : Lit → Bool) (cnt : Nat) (E : List S41) (wv : Value), W.ranges Try.prog 3 (plainElem Try.prog 3) gm r l1.length D left cnt ∧ MidB w (l0.length + l1.length : Int) bv wv bs W ∧ Kd.R k41 41 W (w.heap.size + 2) (fun _ => True) wv E ∧ Coll (l1.map hashOf) left E) (fun _ W => W.rangeLeft gm r)
            case atStart => exact ⟨_, _, [], .slice none 0 0, hrg0, hM2, Kd.R_nil _ _ _ _ _, Coll.start hMI⟩
            case round =>
              clear hrg0 hM2
              obtain ⟨left, cnt, E, wv, hrg, hM, hRE, hC⟩ := hrel
              go_wp2_with (first
                | (at_next; refine wpList_next_ranges_ii _ rfl _ rfl 3 3 .i64 .i64 law3 Try.underlying3 Try.underlying3 gm r l1.length _ _ _ rfl hrg ?_ ?_)
                | fail)
              · intro _ hl0
                have hc2 := hM.c2
                obtain ⟨A3, k3, rfl⟩ := Kd.R_slice hRE
                obtain ⟨A4, k4, rfl⟩ := Kd.R_slice hM.R
                have hlen := hC.len (by simp; omega)
                have HS := sortE_calls hM.f7 (R41_own hRE) (by simp; omega)
                rw [List.length_map] at HS
                have hc0 := hM.c0
                have hc1 := hM.c1
                clear hrg
                go_wp2_with fail
                refine HS.mono ?_
                rintro e W2 ⟨rfl, E2, hP2, hS2, ho2, hg2⟩
                have hl2 : Hid (E.length = E2.length) := Lib.hid (by have := hP2.length_eq; simpa using this.symm)
                have hM2 := hM.grown hg2 (fun k e => by have := (R_lo hRE k e).1; omega) (ne_rows hM.R hRE (by decide))
                have a0 := hM2.c0
                have a1 := hM2.c1
                have a2 := hM2.c2
                have a3 : ∀ i, W2.frozen? ⟨w.heap.size, i, none⟩ = false := fun i => by simp [World.frozen?, hM2.f6]
                have a4 : W2.cell? ⟨w.heap.size, 0, none⟩ = some (.int .i64 0) := by simp [World.cell?, hM2.f6]
                have a5 : W2.cell? ⟨w.heap.size, 1, none⟩ = some (.slice none 0 0) := by simp [World.cell?, hM2.f6]
                have a6 : W2.cell? ⟨w.heap.size, 2, none⟩ = some (.slice none 0 0) := by simp [World.cell?, hM2.f6]
                have a7 : W2.shape? w.heap.size = some (27, 3) := by simp [World.shape?, hM2.f6]
                clear HS hc0 hc1 hc2
                have hR2 := own_R41 hl2.out ho2
                have hI2 : IsEnts (l1.map hashOf) (E2.map ofP) := by
                  refine hC.ents hl0 ?_ ?_
                  · have := hP2.map ofP
                    simpa [ofP, toP, Function.comp_def] using this
                  · exact List.pairwise_map.2 (hS2.imp (fun h => h))
                go_wp2_with fail
                refine bodyPost_ret (v := .agg #[.int .i64 (l0.length + l1.length : Int), .slice A4 bs.length k4, .slice A3 E.length k3]) ?_ rfl ?_
                · have h5 := blk_set (blk_set (blk_set hM2.f6 0 (.int .i64 (l0.length + l1.length : Int))) 1 (.slice A4 bs.length k4)) 2 (.slice A3 E.length k3)
                  generalize ((W2.setCell ⟨w.heap.size, 0, none⟩ (.int .i64 (l0.length + l1.length : Int))).setCell ⟨w.heap.size, 1, none⟩ (.slice A4 bs.length k4)).setCell ⟨w.heap.size, 2, none⟩ (.slice A3 E.length k3) = W5 at h5 ⊢
                  have b0 : W5.cell? ⟨w.heap.size, 0, none⟩ = some (.int .i64 (l0.length + l1.length : Int)) := by simp [World.cell?, h5]
                  have b1 : W5.cell? ⟨w.heap.size, 1, none⟩ = some (.slice A4 bs.length k4) := by simp [World.cell?, h5]
                  have b2 : W5.cell? ⟨w.heap.size, 2, none⟩ = some (.slice A3 E.length k3) := by simp [World.cell?, h5]
                  clear h5
                  simp [results, Try.results7, go_sem, b0, b1, b2]
                · exact bout_end Hbs.out ((ents_is _).unique hI2) hM2 hR2
              · intro x c w1 cnt1 hwx hwc hlx hat hrg1 hlt hg1 hs1 hen
                clear hs1
                have hM1 := hM.grown hg1 (fun k e => by cases e; exact hrr) (fun k hk => ne_iter hM.R hrg k hk)
                have hRE1 := R41_grown hRE hg1 (fun k hk => ne_iter hRE hrg k hk)
                have hc2 := hM1.c2
                have hz1 := hM1.z
                have hlen := hC.len (n := 1048576) (by simp; omega)
                go_wp2_with (
                    (at_builtin; (refine Kd.R_append k41 (w0 := w1) (w.heap.size + 2) rfl (.tmp 84) (.tmp 88) 25 41 (.agg #[.int .i64 0, .int .i64 0]) 16 rfl Try.underlying25 infoE rfl (by decide) (by decide) wv E ⟨c, x⟩ [.int .i64 c, .int .i64 x] (fun _ => True) (fun _ => False) rfl rfl (k41_mkM _ _ _ (⟨c, x⟩ : S41)) (fun _ h => h.elim) (fun _ _ => trivial) hRE1 ((Below.refl _ w1).mono (Nat.le_refl _)) hz1 (by omega) ?_; intro v1 w2 hR1 hb1 hg2 hat1; obtain ⟨A9, c9, rfl⟩ := Kd.R_slice hR1; obtain ⟨_, q1, q2⟩ := hM1.app (Below.refl _ _) hg2 (fun k e => (R_lo hRE1 k e).1))))
                have hl9 : (E ++ [(⟨c, x⟩ : S41)]).length = E.length + 1 := by simp
                rw [hl9] at hR1
                have hM2 := hM1.grown hg2 (fun k e => (R_lo hRE1 k e).1) (ne_rows hM1.R hRE1 (by decide))
                have hM3 := hM2.set2 (.slice A9 (E.length + 1) c9)
                have hR3 := Kd.R_set hR1 hM2.f7 (by decide) 2 (.slice A9 (E.length + 1) c9)
                have hrg2 := hrg1.kept hg2 (fun e => ne_map hRE1 hrg1.owns gm e.symm rfl) (fun e => ne_iter hRE1 hrg1 r e.symm rfl)
                have hrg3 := hrg2.kept (grown_set w2 (w.heap.size + 1) 2 (.slice A9 (E.length + 1) c9)) (fun e => by injection e with e; omega) (fun e => by injection e with e; omega)
                go_roundw
                case rel => exact ⟨_, cnt1, E ++ [⟨c, x⟩], _, hrg3, hM3, hR3, hC.step hMI hlx hat⟩
                case measure => rw [hrg3.left_eq, hrg.left_eq]; exact hlt
  · have hnz' : decide ((0 : Int) < (l0.length : Int)) = false := decide_eq_false (by omega)
    have Hbs0 : Hid (bks l0 a2 = []) := Lib.hid (by unfold bks; rw [if_pos (by omega)])
    obtain ⟨bv, bs, hM, Hbs⟩ : ∃ bv bs, MidB w (l0.length + l1.length : Int) bv (.slice none 0 0) bs w2 ∧ Hid (bks l0 a2 = bs) := ⟨_, [], ⟨e6', e7', Kd.R_nil _ _ _ _ _, hB3, hz2⟩, Hbs0⟩
    clear e6' e7' hB3 hz2 ho2 Hbs0
    go_wp2_with fail
    have hown := World.ownsMap_made w2 Try.prog 3 (plainElem (H := Unit) Try.prog 3)
    have hM1 := hM.below ((Below.refl _ w2).alloc (Nat.le_refl _) (.map #[] 0))
    have hgm : w.heap.size + 2 ≤ w2.heap.size := hM.z
    clear hM
    generalize hgm' : w2.heap.size = gm at hown hgm ⊢
    generalize w2.alloc (.map #[] 0) = W0 at hown hM1 ⊢
    clear hgm'
    go_loopw [66] (fun s W => ∃ (k : Nat) (D : DataW Unit), k ≤ l1.length ∧ s = .int .i64 k ∧ MidB w (l0.length + l1.length : Int) bv (.slice none 0 0) bs W ∧ W.ownsMap Try.prog 3 (plainElem Try.prog 3) gm k D ∧ MapIs D ((l1.map hashOf).take k)) (fun s _ => l1.length - (intOf s).toNat)
    case atStart => exact ⟨0, _, Nat.zero_le _, rfl, hM1, hown, MapIs.nil⟩
    case round =>
      clear hown hM1
      obtain ⟨k, D, hk, rfl, hM, hown, hMI⟩ := hrel
      by_cases hlt : k < l1.length
      · have hlt' : decide ((k : Int) < (l1.length : Int)) = true := decide_eq_true (by omega)
        obtain ⟨bs1, off1, rfl, hbl, hcs⟩ := strs_of_C hr1 (by omega)
        have hcx := (hM.B.cell (p := ⟨bs1, off1 + k, none⟩) hbl).trans (hcs k hlt)
        have hsz : (l1.getD k ByteArray.empty).size ≤ 4611686018427387904 := by
          have : l1.getD k ByteArray.empty ∈ l1 := by rw [List.getD, List.getElem?_eq_getElem hlt]; exact List.getElem_mem hlt
          have := Hs1.out _ this
          omega
        have Htk := Lib.hid (take_hash hlt)
        clear hcs
        generalize l1.getD k ByteArray.empty = s at hcx hsz Htk
        have hkey : keyOf Try.prog 3 (.int .i64 (hashOf s)) = some (.int .i64 (hashOf s)) := keyOf_int_mk Try.underlying3 (wrap64_wf _)
        have hne := ne_map hM.R hown
        go_wp2_with (first
          | (go_at_call 20; refine (hash_calls s hsz _).mono ?_; rintro e W1 ⟨rfl, hB1⟩; have hown1 := hown.kept (grown_of_below hB1) (by simp); have hM1 := hM.below hB1)
          | (at_lookup; refine wpList_lookup_own_int _ rfl _ _ 49 rfl 3 3 .i64 law3 Try.underlying49 Try.underlying3 (zero3 _) gm k D rfl hown1 _ _ rfl hkey ?_; intro c hat hwc)
          | (at_mapUpdate; refine wpList_mapUpdate_own _ rfl _ _ _ 49 rfl 3 3 law3 Try.underlying49 _ gm k D rfl hown1 (by unfold maxLen; omega) _ _ _ rfl rfl hkey _ [] (plainElem_int Try.underlying3 (wrap64_wf _)) ?_; intro w2 hown2 hgrow2))
        go_roundw
        case rel => exact ⟨k + 1, _, by omega, by go_num, hM1.grown hgrow2 (fun j e => by cases e; exact hgm) hne, hown2, by rw [Htk.out]; exact hMI.step hat (by simp; omega)⟩
        case measure => simp [intOf]; omega
      · have hlt' : decide ((k : Int) < (l1.length : Int)) = false := decide_eq_false (by omega)
        obtain rfl : k = l1.length := by omega
        rw [List.take_of_length_le (by simp)] at hMI
        go_wp2_with (first
          | (at_range; refine wpList_range_own _ rfl _ 49 rfl 3 3 law3 Try.underlying49 _ gm _ D rfl hown ?_; intro w0 hrg0 hg0 hs0)
          | fail)
        go_frame
        have hM2 := hM.grown hg0 (fun k e => by cases e) (fun k _ e => by cases e)
        have hrr : w.heap.size + 2 ≤ wr.heap.size := hM.z
        clear hM hown hg0 hs0
        generalize wr.heap.size = r at hrg0 hrr ⊢
        go_loopw [17] (fun _ W => ∃ (left : Lit → Bool) (cnt : Nat) (E : List S41) (wv : Value), W.ranges Try.prog 3 (plainElem Try.prog 3) gm r l1.length D left cnt ∧ MidB w (l0.length + l1.length : Int) bv wv bs W ∧ Kd.R k41 41 W (w.heap.size + 2) (fun _ => True) wv E ∧ Coll (l1.map hashOf) left E) (fun _ W => W.rangeLeft gm r)
        case atStart => exact ⟨_, _, [], .slice none 0 0, hrg0, hM2, Kd.R_nil _ _ _ _ _, Coll.start hMI⟩
        case round =>
          clear hrg0 hM2
          obtain ⟨left, cnt, E, wv, hrg, hM, hRE, hC⟩ := hrel
          go_wp2_with (first
            | (at_next; refine wpList_next_ranges_ii _ rfl _ rfl 3 3 .i64 .i64 law3 Try.underlying3 Try.underlying3 gm r l1.length _ _ _ rfl hrg ?_ ?_)
            | fail)
          · intro _ hl0
            have hc2 := hM.c2
            obtain ⟨A3, k3, rfl⟩ := Kd.R_slice hRE
            obtain ⟨A4, k4, rfl⟩ := Kd.R_slice hM.R
            have hlen := hC.len (by simp; omega)
            have HS := sortE_calls hM.f7 (R41_own hRE) (by simp; omega)
            rw [List.length_map] at HS
            have hc0 := hM.c0
            have hc1 := hM.c1
            clear hrg
            go_wp2_with fail
            refine HS.mono ?_
            rintro e W2 ⟨rfl, E2, hP2, hS2, ho2, hg2⟩
            have hl2 : Hid (E.length = E2.length) := Lib.hid (by have := hP2.length_eq; simpa using this.symm)
            have hM2 := hM.grown hg2 (fun k e => by have := (R_lo hRE k e).1; omega) (ne_rows hM.R hRE (by decide))
            have a0 := hM2.c0
            have a1 := hM2.c1
            have a2 := hM2.c2
            have a3 : ∀ i, W2.frozen? ⟨w.heap.size, i, none⟩ = false := fun i => by simp [World.frozen?, hM2.f6]
            have a4 : W2.cell? ⟨w.heap.size, 0, none⟩ = some (.int .i64 0) := by simp [World.cell?, hM2.f6]
            have a5 : W2.cell? ⟨w.heap.size, 1, none⟩ = some (.slice none 0 0) := by simp [World.cell?, hM2.f6]
            have a6 : W2.cell? ⟨w.heap.size, 2, none⟩ = some (.slice none 0 0) := by simp [World.cell?, hM2.f6]
            have a7 : W2.shape? w.heap.size = some (27, 3) := by simp [World.shape?, hM2.f6]
            clear HS hc0 hc1 hc2
            have hR2 := own_R41 hl2.out ho2
            have hI2 : IsEnts (l1.map hashOf) (E2.map ofP) := by
              refine hC.ents hl0 ?_ ?_
              · have := hP2.map ofP
                simpa [ofP, toP, Function.comp_def] using this
              · exact List.pairwise_map.2 (hS2.imp (fun h => h))
            go_wp2_with fail
            refine bodyPost_ret (v := .agg #[.int .i64 (l0.length + l1.length : Int), .slice A4 bs.length k4, .slice A3 E.length k3]) ?_ rfl ?_
            · have h5 := blk_set (blk_set (blk_set hM2.f6 0 (.int .i64 (l0.length + l1.length : Int))) 1 (.slice A4 bs.length k4)) 2 (.slice A3 E.length k3)
              generalize ((W2.setCell ⟨w.heap.size, 0, none⟩ (.int .i64 (l0.length + l1.length : Int))).setCell ⟨w.heap.size, 1, none⟩ (.slice A4 bs.length k4)).setCell ⟨w.heap.size, 2, none⟩ (.slice A3 E.length k3) = W5 at h5 ⊢
              have b0 : W5.cell? ⟨w.heap.size, 0, none⟩ = some (.int .i64 (l0.length + l1.length : Int)) := by simp [World.cell?, h5]
              have b1 : W5.cell? ⟨w.heap.size, 1, none⟩ = some (.slice A4 bs.length k4) := by simp [World.cell?, h5]
              have b2 : W5.cell? ⟨w.heap.size, 2, none⟩ = some (.slice A3 E.length k3) := by simp [World.cell?, h5]
              clear h5
              simp [results, Try.results7, go_sem, b0, b1, b2]
            · exact bout_end Hbs.out ((ents_is _).unique hI2) hM2 hR2
          · intro x c w1 cnt1 hwx hwc hlx hat hrg1 hlt hg1 hs1 hen
            clear hs1
            have hM1 := hM.grown hg1 (fun k e => by cases e; exact hrr) (fun k hk => ne_iter hM.R hrg k hk)
            have hRE1 := R41_grown hRE hg1 (fun k hk => ne_iter hRE hrg k hk)
            have hc2 := hM1.c2
            have hz1 := hM1.z
            have hlen := hC.len (n := 1048576) (by simp; omega)
            go_wp2_with (
                (at_builtin; (refine Kd.R_append k41 (w0 := w1) (w.heap.size + 2) rfl (.tmp 84) (.tmp 88) 25 41 (.agg #[.int .i64 0, .int .i64 0]) 16 rfl Try.underlying25 infoE rfl (by decide) (by decide) wv E ⟨c, x⟩ [.int .i64 c, .int .i64 x] (fun _ => True) (fun _ => False) rfl rfl (k41_mkM _ _ _ (⟨c, x⟩ : S41)) (fun _ h => h.elim) (fun _ _ => trivial) hRE1 ((Below.refl _ w1).mono (Nat.le_refl _)) hz1 (by omega) ?_; intro v1 w2 hR1 hb1 hg2 hat1; obtain ⟨A9, c9, rfl⟩ := Kd.R_slice hR1; obtain ⟨_, q1, q2⟩ := hM1.app (Below.refl _ _) hg2 (fun k e => (R_lo hRE1 k e).1))))
            have hl9 : (E ++ [(⟨c, x⟩ : S41)]).length = E.length + 1 := by simp
            rw [hl9] at hR1
            have hM2 := hM1.grown hg2 (fun k e => (R_lo hRE1 k e).1) (ne_rows hM1.R hRE1 (by decide))
            have hM3 := hM2.set2 (.slice A9 (E.length + 1) c9)
            have hR3 := Kd.R_set hR1 hM2.f7 (by decide) 2 (.slice A9 (E.length + 1) c9)
            have hrg2 := hrg1.kept hg2 (fun e => ne_map hRE1 hrg1.owns gm e.symm rfl) (fun e => ne_iter hRE1 hrg1 r e.symm rfl)
            have hrg3 := hrg2.kept (grown_set w2 (w.heap.size + 1) 2 (.slice A9 (E.length + 1) c9)) (fun e => by injection e with e; omega) (fun e => by injection e with e; omega)
            go_roundw
            case rel => exact ⟨_, cnt1, E ++ [⟨c, x⟩], _, hrg3, hM3, hR3, hC.step hMI hlx hat⟩
            case measure => rw [hrg3.left_eq, hrg.left_eq]; exact hlt
end Go.Proofs.Ytihanpdfnpgnfaa.H

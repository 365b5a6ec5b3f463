/- The reference's counts: the same contract as stats.Build has. -/
import Derived.Test.YtihanpdfnpgnfaaSBuild
import Derived.Deep.DeepCutAuto
import Derived.Test.YtihanpdfnpgnfaaTR
import Derived.Test.YtihanpdfnpgnfaaPAllx6
namespace Go.Proofs.Ytihanpdfnpgnfaa.H
open Go.RowKit Go.Sort Go.Shelf Go.Lib Go.Maps Go.Proofs.YtihanpdfnpgnfaaW.PrintWords Go.Proofs.Ytihanpdfnpgnfaa.PAll
set_option linter.unusedVariables false

/-- While the words are counted: the struct, the entries so far, the sorted hashes. -/
structure EntB (w : World) (cnt : Int) (bv wv : Value) (bs : List S36) (E : List S41) (hv : Value) (H : List Int) (W : World) : Prop where
  M : MidB w cnt bv wv bs W
  R : Kd.R k41 41 W (w.heap.size + 2) (fun _ => True) wv E
  o : W.ownsRow (w.heap.size + 2) 3 1 hv H.length (H.map I64)
section
variable {w W w1 : World} {cnt : Int} {bv wv hv : Value} {bs : List S36} {E ys : List S41} {H : List Int}
theorem EntB.drewN (h : EntB w cnt bv wv bs E hv H W) (k : Nat) : EntB w cnt bv wv bs E hv H (W.drewN k) := ⟨h.M.drewN k, Kd.R_drewN h.R k, h.o⟩
theorem EntB.drew (h : EntB w cnt bv wv bs E hv H W) : EntB w cnt bv wv bs E hv H W.drew := ⟨h.M.below (below_drew (Below.refl _ _)), Kd.R_drew h.R, h.o⟩
theorem own_apart {b n m : Nat} {e e' s s' : Nat} {u v : Value} {xs ys : List Value} (h : W.ownsRow b e s u n xs) (h' : W.ownsRow b e' s' v m ys) (hne : e ≠ e') : ∀ k, u.ownBlock = some k → v.ownBlock ≠ some k := fun k hk hk' => by
  obtain ⟨c1, h1⟩ := own_typed h k hk
  obtain ⟨c2, h2⟩ := own_typed h' k hk'
  rw [h1] at h2
  injection h2 with h2
  injection h2 with _ h2
  exact hne h2
theorem EntB.push (h : EntB w cnt bv wv bs E hv H W) (hg : W.grownBy w1 wv.ownBlock) {v9 : Value} (hR : Kd.R k41 41 w1 (w.heap.size + 2) (fun _ => True) v9 ys) : EntB w cnt bv v9 bs ys hv H (w1.setCell ⟨w.heap.size + 1, 2, none⟩ v9) := by
  have hM := h.M.grown hg (fun k e => (R_lo h.R k e).1) (ne_rows h.M.R h.R (by decide))
  refine ⟨hM.set2 v9, Kd.R_set hR hM.f7 (by decide) 2 v9, own_move h.o fun k hk => ?_⟩
  obtain ⟨inner, hoR⟩ := Kd.R_own h.R
  have := own_base h.o k hk
  refine (Below.heap_setCell _ _ _ _ (by show k ≠ w.heap.size + 1; omega)).trans (hg.block k (own_lt h.o k hk) (fun e => own_apart h.o hoR (by decide) k hk e.symm))
theorem EntB.put (h : EntB w cnt bv wv bs E hv H W) {g c : Nat} (hv' : wv = .slice (some ⟨g, 0, none⟩) E.length c) (i : Nat) (hi : i < E.length) (n : Int) (x : S41) (hx : x = ⟨n, (rd_T41 E (i : Int)).f1⟩) : EntB w cnt bv wv bs (E.set i x) hv H (W.setCell ⟨g, i * 2, none⟩ (.int .i64 n)) := by
  subst hv'
  obtain ⟨inner, hoR⟩ := Kd.R_own h.R
  have hg0 : w.heap.size + 2 ≤ g := own_base hoR g (by simp [Value.ownBlock])
  obtain ⟨ad, ea, h0, h1⟩ := at_T41 (Kd.R_reads' h.R).2.2 (i : Int) (by omega) (by omega)
  cases ea
  rw [Int.toNat_natCast, Addr.add_lit, Nat.zero_add] at h0 h1
  have hs := Kd.R_seg (okp := fun _ => False) h.R (i : Int) (by omega) (by omega) (c := [.int .i64 (rd_T41 E (i : Int)).f0, .int .i64 (rd_T41 E (i : Int)).f1]) (seg := [.int .i64 n]) (j := 0) rfl (fun j u hu => by
    rw [Int.toNat_natCast]
    match j, hu with
    | 0, hu => cases hu; exact h0
    | 1, hu => cases hu; exact h1
    | j + 2, hu => simp at hu) (by show 1 ≤ 2; decide) (x' := x) (by rw [hx]; exact k41_mkM _ _ _ (⟨n, (rd_T41 E (i : Int)).f1⟩ : S41)) (fun _ hk => hk.elim)
  rw [Int.toNat_natCast] at hs
  have es : W.setCells g (i * k41.sz + 0) [.int .i64 n] = W.setCell ⟨g, i * 2, none⟩ (.int .i64 n) := rfl
  rw [es] at hs
  refine ⟨h.M.grown hs.2 (fun k e => by cases e; exact hg0) (fun k hk e => ne_rows h.M.R h.R (by decide) k hk (by rw [← e]; rfl)), ?_, own_move h.o fun k hk => Below.heap_setCell _ _ _ k (fun e => own_apart h.o hoR (by decide) k hk (by
    have e : k = g := e
    subst e; rfl))⟩
  have := hs.1
  exact this
end

theorem wrapq {q : Nat} (h : 0 < q) (h2 : q ≤ 4611686018427387904) : IntKind.i64.wrap ((q : Int) - 1) = ((q - 1 : Nat) : Int) := by
  rw [IntKind.wrap_i64]
  omega

/-- While a bucket is made: the struct, the sorted values, the bucket's box. -/
structure InB (w : World) (cnt : Int) (bv : Value) (bs : List S36) (g c n : Nat) (ls : List Int) (f : Nat) (pp : List Int) (gx : Nat) (kn : Int) (W : World) : Prop where
  M : MidB w cnt bv (.slice none 0 0) bs W
  o : W.ownsRow (w.heap.size + 2) 3 1 (.slice (some ⟨g, 0, none⟩) n c) n (ls.map I64)
  x : W.heap[gx]? = some (.cells #[.int .i64 (rd pp 0), .int .i64 (rd pp ((pp.length : Int) - 1)), .int .i64 pp.length, .int .i64 kn] 36 (0, 0))
  ne : ∀ k, bv.ownBlock = some k → k ≠ gx
  lo : w.heap.size + 2 ≤ gx
  p : (ls.drop f).take pp.length = pp ∧ 0 < pp.length ∧ f + pp.length ≤ n ∧ n ≤ 1048576
section
variable {w W : World} {cnt : Int} {bv : Value} {bs : List S36} {g c n : Nat} {ls : List Int} {f : Nat} {pp : List Int} {gx : Nat} {kn : Int}
theorem InB.C (h : InB w cnt bv bs g c n ls f pp gx kn W) : Kd.C (Kd.int .i64) W (some ⟨g, f, none⟩) pp.length pp := by
  obtain ⟨p1, p2, p3, p4⟩ := h.p
  obtain ⟨g', e, _, _, hC⟩ := C_cut h.o (f := f) (t := f + pp.length) (by omega) p3 p4
  cases e
  rw [Nat.add_sub_cancel_left, p1] at hC
  exact hC
theorem InB.drewN (h : InB w cnt bv bs g c n ls f pp gx kn W) (k : Nat) : InB w cnt bv bs g c n ls f pp gx kn (W.drewN k) := ⟨h.M.drewN k, h.o, h.x, h.ne, h.lo, h.p⟩
theorem InB.set (h : InB w cnt bv bs g c n ls f pp gx kn W) (kn' : Int) : InB w cnt bv bs g c n ls f pp gx kn' (W.setCell ⟨gx, 3, none⟩ (.int .i64 kn')) where
  M := h.M.grown (grown_set W gx 3 _) (fun k e => by cases e; exact h.lo) (fun k hk e => by cases e; exact h.ne _ hk rfl)
  o := own_move h.o (fun k hk => Below.heap_setCell _ _ _ k (fun e => by
    have e : k = gx := e
    subst e
    obtain ⟨cells, hc⟩ := own_typed h.o k hk
    rw [h.x] at hc
    injection hc with hc
    injection hc with _ hc
    revert hc
    decide))
  x := blk_set h.x 3 _
  ne := h.ne
  lo := h.lo
  p := h.p
theorem InB.cell3 (h : InB w cnt bv bs g c n ls f pp gx kn W) : W.cell? ⟨gx, 3, none⟩ = some (.int .i64 kn) := by simp [World.cell?, h.x]
theorem InB.fr (h : InB w cnt bv bs g c n ls f pp gx kn W) : W.frozen? ⟨gx, 3, none⟩ = false := by simp [World.frozen?, h.x]
end

theorem ents_f0 (hs : List Int) : ∀ e ∈ ents hs, 0 ≤ e.f0 ∧ e.f0 ≤ hs.length := fun e he => by
  have h := ((ents_is hs).a e he).2
  have := List.count_le_length (a := e.f1) (l := hs)
  omega
theorem EntB.cellH {w W : World} {cnt : Int} {bv wv : Value} {bs : List S36} {E : List S41} {aH : Option Addr} {cH : Nat} {H : List Int} (h : EntB w cnt bv wv bs E (.slice aH H.length cH) H W) {i : Nat} (hi : i < H.length) (hn : H.length ≤ 1048576) :
    ∃ gH, aH = some ⟨gH, 0, none⟩ ∧ W.cell? ⟨gH, i, none⟩ = some (.int .i64 H[i]) := by
  obtain ⟨g, e, _, _, hC⟩ := C_cut h.o (f := 0) (t := H.length) (by omega) (Nat.le_refl _) hn
  rw [List.drop_zero, Nat.sub_zero, List.take_length] at hC
  obtain ⟨ad, e2, hx⟩ := Kd.at_int hC (i : Int) (by omega) (by omega)
  cases e2
  rw [Int.toNat_natCast, Addr.add_lit, Nat.zero_add, rd_at hi] at hx
  exact ⟨g, e, hx⟩
theorem EntB.last {w W : World} {cnt : Int} {bv wv hv : Value} {bs : List S36} {E : List S41} {H : List Int} (h : EntB w cnt bv wv bs E hv H W) (hE : 0 < E.length) :
    ∃ g c, wv = .slice (some ⟨g, 0, none⟩) E.length c ∧ W.cell? ⟨g, (E.length - 1) * 2, none⟩ = some (.int .i64 (rd_T41 E ((E.length : Int) - 1)).f0) ∧ W.cell? ⟨g, (E.length - 1) * 2 + 1, none⟩ = some (.int .i64 (rd_T41 E ((E.length : Int) - 1)).f1) ∧ W.frozen? ⟨g, (E.length - 1) * 2, none⟩ = false ∧ rd_T41 E ((E.length : Int) - 1) ∈ E := by
  obtain ⟨g, c, e, _, _, cells, hc⟩ := Kd.R_form h.R hE
  subst e
  obtain ⟨ad, ea, h0, h1⟩ := at_T41 (Kd.R_reads' h.R).2.2 ((E.length : Int) - 1) (by omega) (by omega)
  cases ea
  rw [show ((E.length : Int) - 1).toNat = E.length - 1 by omega, Addr.add_lit, Nat.zero_add] at h0 h1
  refine ⟨g, c, rfl, h0, h1, by simp [World.frozen?, hc], ?_⟩
  unfold rd_T41
  rw [show ((E.length : Int) - 1).toNat = E.length - 1 by omega, List.getD, List.getElem?_eq_getElem (by omega)]
  exact List.getElem_mem _

theorem meas {n i : Nat} (h : i + 1 ≤ n) (hw : wrap64 ((i : Int) + 1) = ((i + 1 : Nat) : Int)) : n - (intOf (.int .i64 (wrap64 ((i : Int) + 1)))).toNat < n - (intOf (.int .i64 (i : Int))).toNat := by
  rw [hw]
  simp only [intOf, Int.toNat_natCast]
  omega
theorem EntB.putLast {w W : World} {cnt : Int} {bv hv : Value} {bs : List S36} {E : List S41} {H : List Int} {g c : Nat} {x : S41} {h : Int} (hI : EntB w cnt bv (.slice (some ⟨g, 0, none⟩) E.length c) bs E hv H W) (hx : rd_T41 E ((E.length : Int) - 1) = x) (hE : 0 < E.length) (h1 : x.f1 = h) (hw : wrap64 (x.f0 + 1) = x.f0 + 1) :
    EntB w cnt bv (.slice (some ⟨g, 0, none⟩) E.length c) bs (E.set (E.length - 1) ⟨x.f0 + 1, h⟩) hv H (W.setCell ⟨g, (E.length - 1) * 2, none⟩ (.int .i64 (wrap64 (x.f0 + 1)))) := by
  refine hI.put rfl (E.length - 1) (by omega) (wrap64 (x.f0 + 1)) ⟨x.f0 + 1, h⟩ ?_
  rw [show ((E.length - 1 : Nat) : Int) = (E.length : Int) - 1 by omega, hx, h1, hw]

set_option maxHeartbeats 4000000 in
set_option maxRecDepth 100000 in
theorem rbuild_calls (A0 : Option Addr) (c0 : Nat) (l0 : List Int) (A1 : Option Addr) (c1 : Nat) (l1 : List ByteArray) (a2 : Int) (w : World) (hr0 : Kd.C (Kd.int .i64) w A0 l0.length l0) (hc0 : l0.length ≤ c0) (hr1 : Kd.C Kd.string w A1 l1.length l1)
    (hn0 : l0.length ≤ 1048576) (hn1 : l1.length ≤ 1048576) (hs1 : ∀ s ∈ l1, s.size ≤ 1048576) :
    Calls Try.prog 9 #[.slice A0 l0.length c0, .slice A1 l1.length c1, .int .i64 a2] w (BOut w (l0.length + l1.length : Int) (bks l0 a2) (ents (l1.map hashOf))) := by
  have Hs1 := Lib.hid hs1
  clear hs1
  obtain ⟨ks, hks⟩ := rsorted_ex l0 hn0
  have HKS := Lib.hid hks
  clear hks
  go_enter Try.func9, Try.ntmps9
  go_wp2_with fail
  have hw64 : wrap64 ((l0.length : Int) + (l1.length : Int)) = (l0.length : Int) + (l1.length : Int) := by unfold wrap64; omega
  refine (lodestarref15_sorted.calls ks A0 c0 l0 _ _ (Kd.C_alloc (Kd.C_alloc hr0 _) _) hc0 HKS.out).mono ?_
  rintro e w2 ⟨v, rfl, hR, hB⟩
  clear HKS
  obtain ⟨W0, hW0⟩ : ∃ W0, ((w.alloc (.cells #[.int .i64 0, .slice none 0 0, .slice none 0 0] 27)).alloc (.cells #[.int .i64 (l0.length + l1.length : Int), .slice none 0 0, .slice none 0 0] 27)) = W0 := ⟨_, rfl⟩
  have hz0 : W0.heap.size = w.heap.size + 2 := by rw [← hW0]; simp
  have e6 : W0.heap[w.heap.size]? = some (.cells #[.int .i64 0, .slice none 0 0, .slice none 0 0] 27 (0, 0)) := by
    rw [← hW0]; exact (Below.heap_alloc _ _ _ (by simp)).trans (World.alloc_heap_new w _)
  have e7 : W0.heap[w.heap.size + 1]? = some (.cells #[.int .i64 (l0.length + l1.length : Int), .slice none 0 0, .slice none 0 0] 27 (0, 0)) := by
    rw [← hW0]; have := World.alloc_heap_new (w.alloc (.cells #[.int .i64 0, .slice none 0 0, .slice none 0 0] 27)) (.cells #[.int .i64 (l0.length + l1.length : Int), .slice none 0 0, .slice none 0 0] 27); rwa [World.size_alloc] at this
  have hB0 : Below w.heap.size w W0 := by rw [← hW0]; exact ((Below.refl _ w).alloc (Nat.le_refl _) _).alloc (by simp) _
  rw [hW0] at hR hB
  clear hW0
  have hl : (l0.mergeSort fun x y => decide (x ≤ y)).length = l0.length := by simp
  generalize hls : (l0.mergeSort fun x y => decide (x ≤ y)) = ls at hR hl
  have Hls := Lib.hid hls
  clear hls
  have Hl := Lib.hid hl
  have ho2 : w2.ownsRow W0.heap.size 3 1 v l0.length (ls.map I64) := by rw [← hl]; exact Kd.own_of_R hR
  clear hl hR
  have e6' := (hB.block _ (by omega)).trans e6
  have e7' := (hB.block _ (by omega)).trans e7
  have hB3 := hB0.trans (hB.mono (by omega))
  have hz2 := hB.size
  rw [hz0] at hz2 ho2
  clear e6 e7 hB0 hB hz0
  obtain ⟨a, c, rfl⟩ := own_slice ho2
  have hM0 : MidB w (l0.length + l1.length : Int) (.slice none 0 0) (.slice none 0 0) [] w2 := ⟨e6', e7', Kd.R_nil _ _ _ _ _, hB3, hz2⟩
  clear e6' e7' hB3 hz2
  obtain ⟨b, hb, hb1, hbn⟩ : ∃ b : Nat, max 1 (min a2 (l0.length : Int)) = (b : Int) ∧ 1 ≤ b ∧ (0 < l0.length → b ≤ l0.length) := ⟨(max 1 (min a2 (l0.length : Int))).toNat, by omega, by omega, by omega⟩
  have hb' := Lib.hid hb
  clear hb
  go_upto_block 0 with (fail)
  rw [hb'.out]
  go_cut [11] (fun s wc => ∃ bv, MidB w (l0.length + l1.length : Int) bv (.slice none 0 0) (bks l0 a2) wc)
  case first =>
   go_wp2_with fail
   go_loopw [11] (fun s wr => ∃ (i : Nat) (bv : Value), s = .int .i64 i ∧ MidB w (l0.length + l1.length : Int) bv (.slice none 0 0) ((List.range i).map fun j => bkt (partOf ls b j)) wr ∧ wr.ownsRow (w.heap.size + 2) 3 1 (.slice a l0.length c) l0.length (ls.map I64) ∧
       i ≤ b ∧ (l0.length = 0 → i = 0)) (fun s _ => b - (intOf s).toNat)
   case atStart => exact ⟨0, .slice none 0 0, rfl, hM0, ho2, by omega, fun _ => rfl⟩
   case round =>
     clear hM0 ho2
     obtain ⟨i, bv, rfl, hM, ho, hib, hi0⟩ := hrel
     by_cases hnz : 0 < l0.length ∧ i < b
     · obtain ⟨hnz, hlt⟩ := hnz
       replace hbn := hbn hnz
       have hlt' : decide ((i : Int) < (b : Int)) = true := decide_eq_true (by omega)
       have hnz' : decide ((0 : Int) < (l0.length : Int)) = true := decide_eq_true (by omega)
       clear hi0
       have hbn' : i * l0.length ≤ 1048576 * 1048576 := Nat.mul_le_mul (by omega) hn0
       have hbn2 : (i + 1) * l0.length ≤ 1048577 * 1048576 := Nat.mul_le_mul (by omega) hn0
       have hq1 : wrap64 ((wrap64 ((i : Int) * (l0.length : Int))).tdiv (b : Int)) = ((i * l0.length / b : Nat) : Int) := by
         rw [← Int.natCast_mul, wrap_nat _ (by omega), Int.tdiv_eq_ediv_of_nonneg (by omega), ← Int.natCast_ediv, wrap_nat]
         exact Nat.lt_of_le_of_lt (Nat.div_le_self _ _) (by omega)
       have hq2 : wrap64 ((wrap64 (((i : Int) + 1) * (l0.length : Int))).tdiv (b : Int)) = (((i + 1) * l0.length / b : Nat) : Int) := by
         rw [show (i : Int) + 1 = ((i + 1 : Nat) : Int) by omega, ← Int.natCast_mul, wrap_nat _ (by omega), Int.tdiv_eq_ediv_of_nonneg (by omega), ← Int.natCast_ediv, wrap_nat]
         exact Nat.lt_of_le_of_lt (Nat.div_le_self _ _) (by omega)
       have hft : i * l0.length / b < (i + 1) * l0.length / b := by
         rw [Nat.add_mul, Nat.one_mul]
         exact cut_lt (by omega) hbn
       have htn : (i + 1) * l0.length / b ≤ l0.length := by
         apply Nat.div_le_of_le_mul
         exact Nat.mul_le_mul_right _ (by omega)
       clear hbn' hbn2
       have hpart : partOf ls b i = (ls.drop (i * l0.length / b)).take ((i + 1) * l0.length / b - i * l0.length / b) := by unfold partOf; rw [Hl.out]
       generalize i * l0.length / b = f at hft hpart hq1
       generalize (i + 1) * l0.length / b = t at hft htn hpart hq2
       obtain ⟨g, rfl, htc, hlen, hC⟩ := C_cut ho hft htn hn0
       have hz := hM.z
       rw [← hpart] at hC hlen
       have p1 : (0 : Int) ≤ (f : Int) := by omega
       have p2 : (f : Int) ≤ (t : Int) := by omega
       have p3 : (t : Int) ≤ (c : Int) := by omega
       have p4 : ¬ t = f := by omega
       have hne := hb1
       go_wp2_with fail
       go_quiet (fail)
       go_wp2_with fail
       replace hM := hM.drewN nq
       replace ho : (wr.drewN nq).ownsRow (w.heap.size + 2) 3 1 (.slice (some ⟨g, 0, none⟩) l0.length c) l0.length (ls.map I64) := ho
       replace hC := Kd.C_drewN hC nq
       replace hz := hM.z
       generalize wr.drewN nq = wr at *
       clear hq1 hq2
       have HP := Lib.hid hpart
       clear hpart
       generalize hpp : partOf ls b i = pp at hC hlen
       have HPP := Lib.hid hpp
       have HQ : Hid ((ls.drop f).take (t - f) = pp) := Lib.hid (by rw [← hpp, HP.out])
       clear hpp HP
       generalize hq : t - f = q at *
       have hq0 : 0 < q := by omega
       subst hlen
       have hx0 := Kd.at_int hC 0 (by omega) (by omega)
       have hx1 := Kd.at_int hC ((pp.length : Int) - 1) (by omega) (by omega)
       obtain ⟨_, e0, hx0⟩ := hx0
       cases e0
       obtain ⟨_, e0, hx1⟩ := hx1
       cases e0
       have hqn : ((pp.length : Int) - 1).toNat = pp.length - 1 := by omega
       rw [hqn, Addr.add_lit] at hx1
       simp only [Int.toNat_zero, Addr.add_lit, Nat.add_zero] at hx0
       have p5 := wrapq hq0 (by omega)
       have p6 : (((pp.length - 1 : Nat) : Int) < (pp.length : Int)) = True := eq_true (by omega)
       have p6b : (pp.length - 1 < pp.length) = True := eq_true (by omega)
       have p7 : ((0 : Int) < (pp.length : Int)) = True := eq_true (by omega)
       have hy0 : ∀ o, (wr.alloc o).cell? ⟨g, f, none⟩ = some (.int .i64 (rd pp 0)) := fun o => Lib.cell?_alloc_some _ hx0
       have hy1 : ∀ o, (wr.alloc o).cell? ⟨g, f + (pp.length - 1), none⟩ = some (.int .i64 (rd pp ((pp.length : Int) - 1))) := fun o => Lib.cell?_alloc_some _ hx1
       go_cut [13] (fun s wc => ∃ gx, s = .pointer (some ⟨gx, 0, none⟩) ∧ wc.heap[gx]? = some (.cells #[.int .i64 (rd pp 0), .int .i64 (rd pp ((pp.length : Int) - 1)), .int .i64 pp.length, .int .i64 0] 36 (0, 0)) ∧ wr.heap.size ≤ gx ∧ gx < wc.heap.size ∧ Below wr.heap.size wr wc)
       case first =>
         go_region_law (fail)
         all_goals
           go_wp2_with fail
           go_meet
           case rel => exact ⟨wr.heap.size, rfl, World.alloc_heap_new wr _, Nat.le_refl _, by show _ < (wr.alloc _).heap.size; simp, by first | exact below_drew ((Below.refl _ wr).alloc (Nat.le_refl _) _) | exact pw_below_drewN ((Below.refl _ wr).alloc (Nat.le_refl _) _) _⟩
       case rest =>
         obtain ⟨gx, rfl, hbx, hgx, hgx2, hBx⟩ := hcut
         have hI : InB w (l0.length + l1.length : Int) bv ((List.range i).map fun j => bkt (partOf ls b j)) g c l0.length ls f pp gx (kindsUp pp 0) wc :=
           ⟨hM.below hBx, pw_own_below ho hBx, hbx, fun k hk e => by have := Kd.R_lt hM.R k hk; omega, by omega, HQ.out, hq0, by omega, hn0⟩
         clear hM ho hC hx0 hx1 hy0 hy1 hbx hBx hgx2 p5 p6 p6b p7 hqn
         go_wp2_with fail
         go_loopw [14] (fun s wd => ∃ k : Nat, k ≤ pp.length ∧ s = .int .i64 k ∧ InB w (l0.length + l1.length : Int) bv ((List.range i).map fun j => bkt (partOf ls b j)) g c l0.length ls f pp gx (kindsUp pp k) wd) (fun s _ => pp.length - (intOf s).toNat)
         case atStart => exact ⟨0, by omega, rfl, hI⟩
         case round =>
           clear hI
           obtain ⟨k, hkl, rfl, hI⟩ := hrel
           by_cases hk : k < pp.length
           · have hk' : decide ((k : Int) < (pp.length : Int)) = true := decide_eq_true (by omega)
             have HL : Hid (k + 1 ≤ pp.length) := Lib.hid (by omega)
             have hc3 := hI.cell3
             have hf3 := hI.fr
             have hkb := kindsUp_le pp k
             have hpp4 := hI.p.2.2
             have hwk : wrap64 (kindsUp pp k + 1) = kindsUp pp k + 1 := by unfold wrap64; omega
             obtain ⟨ad, e0, hx1⟩ := Kd.at_int hI.C (k : Int) (by omega) (by omega)
             cases e0
             rw [Int.toNat_natCast, Addr.add_lit] at hx1
             have p1 := eq_true hk
             by_cases h0 : k = 0
             · have h0b : ((k : Int) == 0) = true := beq_iff_eq.mpr (by omega)
               have HE : Hid (wrap64 (kindsUp pp k + 1) = kindsUp pp (k + 1)) := Lib.hid (by rw [hwk, kindsUp, if_pos h0])
               clear hk h0 hwk hkb hpp4
               generalize kindsUp pp k = kn at *
               go_wp2_with fail
               go_quiet (fail)
               go_wp2_with fail
               exact ⟨⟨k + 1, HL.out, rfl, by rw [← HE.out]; exact (hI.drewN nq).set _⟩, by have := HL.out; simp only [intOf]; omega⟩
             · have h0b : ((k : Int) == 0) = false := beq_eq_false_iff_ne.mpr (by omega)
               obtain ⟨ad, e0, hx0⟩ := Kd.at_int hI.C ((k : Int) - 1) (by omega) (by omega)
               cases e0
               rw [show ((k : Int) - 1).toNat = k - 1 by omega, Addr.add_lit] at hx0
               have p5 := wrapq (q := k) (by omega) (by omega)
               have p6 : (((k - 1 : Nat) : Int) < (pp.length : Int)) = True := eq_true (by omega)
               have p6b : (k - 1 < pp.length) = True := eq_true (by omega)
               by_cases he : rd pp ((k : Int) - 1) = rd pp (k : Int)
               · have heb : (rd pp ((k : Int) - 1) != rd pp (k : Int)) = false := bne_eq_false_iff_eq.mpr he
                 have HE : Hid (kindsUp pp k = kindsUp pp (k + 1)) := Lib.hid (by rw [kindsUp, if_neg h0, if_pos he])
                 clear hk h0 hwk hkb hpp4 he
                 generalize kindsUp pp k = kn at *
                 go_wp2_with fail
                 go_quiet (fail)
                 go_wp2_with fail
                 exact ⟨⟨k + 1, HL.out, rfl, by rw [← HE.out]; exact hI.drewN nq⟩, by have := HL.out; simp only [intOf]; omega⟩
               · have heb : (rd pp ((k : Int) - 1) != rd pp (k : Int)) = true := bne_iff_ne.mpr he
                 have HE : Hid (wrap64 (kindsUp pp k + 1) = kindsUp pp (k + 1)) := Lib.hid (by rw [hwk, kindsUp, if_neg h0, if_neg he])
                 clear hk h0 hwk hkb hpp4 he
                 generalize kindsUp pp k = kn at *
                 go_wp2_with fail
                 go_quiet (fail)
                 go_wp2_with fail
                 exact ⟨⟨k + 1, HL.out, rfl, by rw [← HE.out]; exact (hI.drewN nq).set _⟩, by have := HL.out; simp only [intOf]; omega⟩
           · have hk' : decide ((k : Int) < (pp.length : Int)) = false := decide_eq_false (by omega)
             obtain rfl : k = pp.length := by omega
             have hM := hI.M
             have ho := hI.o
             have hcs := hM.c1
             have hz := hM.z
             have hcx : ∀ j v, (#[.int .i64 (rd pp 0), .int .i64 (rd pp ((pp.length : Int) - 1)), .int .i64 pp.length, .int .i64 (kindsUp pp pp.length)] : Array Value)[j]? = some v → wr.cell? ⟨gx, j, none⟩ = some v := fun j v hv => by simp only [World.cell?, hI.x]; exact hv
             have hx0 := hcx 0 _ rfl
             have hx1 := hcx 1 _ rfl
             have hx2 := hcx 2 _ rfl
             have hx3 := hcx 3 _ rfl
             clear hcx hk hI
             go_wp2_with (first
               | ((with_reducible refine gate_builtin (b := .append) (xs := #[.tmp 92, .tmp 94]) rfl ?_); at_builtin; refine Kd.R_append k36 (w0 := wr) (W := wr) (w.heap.size + 2) rfl (.tmp 92) (.tmp 94) 24 36 (.agg #[.int .i64 0, .int .i64 0, .int .i64 0, .int .i64 0]) 32 rfl Try.underlying24 infoB rfl (by decide) (by decide) bv _ (bkt pp) [.int .i64 (rd pp 0), .int .i64 (rd pp ((pp.length : Int) - 1)), .int .i64 pp.length, .int .i64 (kindsUp pp pp.length)] (fun _ => True) (fun _ => False) ?e1 ?e2 (k36_mkM _ _ _ (bkt pp)) (fun _ h => h.elim) (fun _ _ => trivial) hM.R (Below.refl _ _) hz ?e3 ?_; (case e1 => first | rfl | go_simp); (case e2 => first | rfl | go_simp); (case e3 => simp; omega); intro v1 w1 hR1 hb1 hg1 hat1; obtain ⟨A9, c9, rfl⟩ := Kd.R_slice hR1; obtain ⟨q1, _, q2⟩ := hM.app (W1 := wr) (Below.refl _ wr) hg1 (fun k e => (R_lo hM.R k e).1))
               | fail)
             have r1 := hM.pushB (Below.refl _ wr) hg1 hR1
             have r2 := own_push (v9 := .slice A9 ((List.range i).map (fun j => bkt (partOf ls b j)) ++ [bkt pp]).length c9) hM ho (Below.refl _ wr) hg1
             have hl9 : ((List.range i).map (fun j => bkt (partOf ls b j)) ++ [bkt pp]).length = i + 1 := by simp
             rw [hl9] at r1 r2
             exact ⟨⟨i + 1, _, rfl, by rw [List.range_succ, List.map_append, List.map_singleton, HPP.out]; exact r1, r2, by omega, fun h => by omega⟩, by simp only [intOf]; omega⟩
     · have Hbs : Hid ((List.range i).map (fun j => bkt (partOf ls b j)) = bks l0 a2) := Lib.hid (by
         unfold bks
         by_cases h0 : l0.length = 0
         · rw [if_pos h0, hi0 h0]; rfl
         · rw [if_neg h0, hb'.out, Hls.out]
           have : i = b := by omega
           subst this
           rfl)
       by_cases hlt : i < b
       · have hlt' : decide ((i : Int) < (b : Int)) = true := decide_eq_true (by omega)
         have hnz' : decide ((0 : Int) < (l0.length : Int)) = false := decide_eq_false (by omega)
         go_wp2_with fail
         go_meet
         case rel => exact ⟨bv, by rw [← Hbs.out]; exact hM⟩
       · have hlt' : decide ((i : Int) < (b : Int)) = false := decide_eq_false (by omega)
         go_wp2_with fail
         go_meet
         case rel => exact ⟨bv, by rw [← Hbs.out]; exact hM⟩
  case rest =>
    clear hM0 ho2 hb' hbn hb1 Hls Hl
    obtain ⟨bv, hM⟩ := hcut
    go_wp2_with fail
    go_loopw [15, 16] (fun v s W => ∃ k : Nat, k ≤ l1.length ∧ s = .int .i64 k ∧ MidB w (l0.length + l1.length : Int) bv (.slice none 0 0) (bks l0 a2) W ∧ Kd.R (Kd.int .i64) 3 W (w.heap.size + 2) (fun _ => True) v ((l1.map hashOf).take k)) (fun _ s _ => l1.length - (intOf s).toNat)
    case atStart => exact ⟨0, by omega, rfl, hM, Kd.R_nil _ _ _ _ _⟩
    case round =>
      clear hM
      obtain ⟨k, hkl, rfl, hM, hR⟩ := hrel
      obtain ⟨A5, c5, rfl⟩ := Kd.R_slice hR
      by_cases hk : k < l1.length
      · have hk' : decide ((k : Int) < (l1.length : Int)) = true := decide_eq_true (by omega)
        have HL : Hid (k + 1 ≤ l1.length) := Lib.hid (by omega)
        obtain ⟨bs1, off1, rfl, hbl, hcs⟩ := strs_of_C hr1 (by omega)
        have hcx := (hM.B.cell (p := ⟨bs1, off1 + k, none⟩) hbl).trans (hcs k hk)
        have hsz : (l1.getD k ByteArray.empty).size ≤ 1048576 := by
          have : l1.getD k ByteArray.empty ∈ l1 := by rw [List.getD, List.getElem?_eq_getElem hk]; exact List.getElem_mem hk
          exact Hs1.out _ this
        have Htk := Lib.hid (take_hash hk)
        have hlen : ((l1.map hashOf).take k).length = k := by rw [List.length_take, List.length_map]; omega
        clear hcs
        generalize l1.getD k ByteArray.empty = s at hcx hsz Htk
        obtain ⟨kh, hkh⟩ := rhash_ex s hsz
        have HKH := Lib.hid hkh
        clear hkh
        generalize hth : (l1.map hashOf).take k = th at hR hlen Htk
        have HTH := Lib.hid hth
        clear hth hsz
        have hz := hM.z
        generalize hashOf s = hh at HKH Htk
        have Hlen := Lib.hid hlen
        clear hlen
        go_wp2_with (first
          | (go_at_call 24; refine (lodestarref01_Hash.calls kh s hh _ HKH.out).mono ?_; rintro e W1 ⟨rfl, ⟨nd, rfl⟩⟩)
          | ((with_reducible refine gate_builtin (b := .append) (xs := #[.tmp 103, .tmp 109]) rfl ?_); at_builtin; refine Kd.R_append (Kd.int .i64) (w0 := wr.drewN nd) (W := wr.drewN nd) (w.heap.size + 2) rfl (.tmp 103) (.tmp 109) 22 3 (.int .i64 0) 8 rfl Try.underlying22 infoI rfl (by decide) (by decide) (.slice A5 th.length c5) th hh [.int .i64 hh] (fun _ => True) (fun _ => False) ?e1 ?e2 rfl (fun _ h => h.elim) (fun _ _ => trivial) (Kd.R_drewN hR nd) (Below.refl _ _) hz ?e3 ?_; (case e1 => first | rfl | go_simp); (case e2 => first | rfl | go_simp); (case e3 => have := Hlen.out; omega); intro v1 w1 hR1 hb1 hg1 hat1; obtain ⟨A9, c9, rfl⟩ := Kd.R_slice hR1))
        have hl9 : (th ++ [hh]).length = th.length + 1 := by simp
        rw [hl9] at hR1
        exact ⟨⟨k + 1, HL.out, rfl, (hM.drewN nd).grown hg1 (fun k e => Kd.R_base hR k e) (ne_rows hM.R hR (by decide)), by rw [Htk.out]; exact hR1⟩, by have := HL.out; simp only [intOf]; omega⟩
      · have hk' : decide ((k : Int) < (l1.length : Int)) = false := decide_eq_false (by omega)
        obtain rfl : k = l1.length := by omega
        rw [List.take_of_length_le (by simp)] at hR ⊢
        obtain ⟨k2, hk2⟩ := rsorted_ex (l1.map hashOf) (by simp; omega)
        have hCs := (Kd.R_reads' hR).2
        have HE : Hid (ents (l1.map hashOf) = ents ((l1.map hashOf).mergeSort fun x y => decide (x ≤ y))) := Lib.hid (ents_perm (List.mergeSort_perm _ _).symm)
        have HSo := Lib.hid (msort_sorted (l1.map hashOf))
        have HSl : Hid (((l1.map hashOf).mergeSort fun x y => decide (x ≤ y)).length ≤ 1048576) := Lib.hid (by simp; omega)
        have HK2 := Lib.hid hk2
        clear hk2 hk
        generalize hms : ((l1.map hashOf).mergeSort fun x y => decide (x ≤ y)) = H at HK2 HE HSo HSl
        clear hms
        generalize l1.map hashOf = hs at *
        go_wp2_with fail
        refine (lodestarref15_sorted.calls k2 A5 c5 hs H _ hCs.2 hCs.1 HK2.out).mono ?_
        clear HK2 hCs
        rintro e w3 ⟨v, rfl, hR2, hB⟩
        have hz := hM.z
        have hI : EntB w (l0.length + l1.length : Int) bv (.slice none 0 0) (bks l0 a2) [] v H w3 := ⟨hM.below hB, Kd.R_nil _ _ _ _ _, own_weaken (Kd.own_of_R hR2) hz⟩
        clear hR hR2 hM hB
        obtain ⟨aH, cH, rfl⟩ := own_slice hI.o
        go_wp2_with fail
        go_loopw [17] (fun s W => ∃ (i : Nat) (wv : Value), i ≤ H.length ∧ s = .int .i64 i ∧ EntB w (l0.length + l1.length : Int) bv wv (bks l0 a2) (ents (H.take i)) (.slice aH H.length cH) H W) (fun s _ => H.length - (intOf s).toNat)
        case atStart => exact ⟨0, _, by omega, rfl, hI⟩
        case round =>
          clear hI
          obtain ⟨i, wv, hil, rfl, hI⟩ := hrel
          by_cases hi : i < H.length
          · have hi' : decide ((i : Int) < (H.length : Int)) = true := decide_eq_true (by omega)
            have HL : Hid (i + 1 ≤ H.length) := Lib.hid (by omega)
            have hsl := HSl.out
            obtain ⟨gH, rfl, hxH⟩ := hI.cellH hi hsl
            have pi := eq_true hi
            have hc2 := hI.M.c2
            have hEl : (ents (H.take i)).length ≤ 1048576 := by have := ents_len (H.take i); rw [List.length_take] at this; omega
            have hf0 := ents_f0 (H.take i)
            have hfl : ((H.take i).length : Int) ≤ 1048576 := by rw [List.length_take]; omega
            rcases ents_step HSo.out hi with ⟨hA0, hA1, hA2⟩ | ⟨hB1, hB2⟩
            · have HA2 := Lib.hid hA2
              clear hA2
              generalize ents (H.take i) = E at *
              generalize H[i] = h at *
              obtain ⟨gE, cE, rfl, hx0, hx1, hfz, hmem⟩ := hI.last hA0
              have hfb := hf0 _ hmem
              have HI := Lib.hid hI
              have HW : Hid (wrap64 ((rd_T41 E ((E.length : Int) - 1)).f0 + 1) = (rd_T41 E ((E.length : Int) - 1)).f0 + 1) := Lib.hid (by unfold wrap64; omega)
              have hAb := beq_iff_eq.mpr hA1
              have HA1 := Lib.hid hA1
              have hd0 : decide ((0 : Int) < (E.length : Int)) = true := decide_eq_true (by omega)
              have p5 := wrapq hA0 (by omega)
              have p6 : (((E.length - 1 : Nat) : Int) < (E.length : Int)) = True := eq_true (by omega)
              have p6b : (E.length - 1 < E.length) = True := eq_true (by omega)
              have HEl := Lib.hid hEl
              clear hf0 hmem hfb hA1 hI hsl hi hfl hEl
              generalize hlast : rd_T41 E ((E.length : Int) - 1) = x at *
              have HX := Lib.hid hlast
              clear hlast
              go_wp2_with fail
              go_quiet (fail)
              go_wp2_with fail
              have hwi := w64n (n := i) (by have := HSl.out; have := HL.out; omega)
              refine ⟨⟨i + 1, .slice (some ⟨gE, 0, none⟩) E.length cE, HL.out, congrArg (Value.int .i64) hwi, ?_⟩, meas HL.out hwi⟩
              rw [HA2.out]
              exact (HI.out.drewN nq).putLast HX.out hA0 HA1.out HW.out
            · have HB2 := Lib.hid hB2
              clear hB2
              generalize ents (H.take i) = E at *
              generalize hh : H[i] = h at *
              have HHI := Lib.hid hh
              have HI := Lib.hid hI
              have HEl := Lib.hid hEl
              clear hh hf0 hfl
              obtain ⟨A7, c7, rfl⟩ := Kd.R_slice hI.R
              go_upto_region 26 with (fail)
              go_cut [137] (fun s wd => s = .bool false ∧ EntB w (l0.length + l1.length : Int) bv (.slice A7 E.length c7) (bks l0 a2) E (.slice (some ⟨gH, 0, none⟩) H.length cH) H wd)
              case first =>
                by_cases h0 : E.length = 0
                · have hd0 : decide ((0 : Int) < (E.length : Int)) = false := decide_eq_false (by omega)
                  have hd1 : (0 < E.length) = False := eq_false (by omega)
                  have hd2 : decide (0 < E.length) = false := decide_eq_false (by omega)
                  clear hI hsl hi hEl h0 hB1
                  go_quiet (fail)
                  go_wp2_with fail
                  go_meet
                  case rel => exact ⟨rfl, HI.out.drewN nq⟩
                · have hd0 : decide ((0 : Int) < (E.length : Int)) = true := decide_eq_true (by omega)
                  have hd1 : 0 < E.length := by omega
                  obtain ⟨gE, cE, ev, hx0, hx1, hfz, hmem⟩ := hI.last (by omega)
                  cases ev
                  have hAb : ((rd_T41 E ((E.length : Int) - 1)).f1 == h) = false := beq_eq_false_iff_ne.mpr (by rcases hB1 with e | e; exact absurd e h0; exact e)
                  have p5 := wrapq (q := E.length) (by omega) (by omega)
                  have p6 : (((E.length - 1 : Nat) : Int) < (E.length : Int)) = True := eq_true (by omega)
                  have p6b : (E.length - 1 < E.length) = True := eq_true (by omega)
                  clear hI hsl hi hEl h0 hB1 hmem
                  generalize rd_T41 E ((E.length : Int) - 1) = x at *
                  go_quiet (fail)
                  go_wp2_with fail
                  go_meet
                  case rel => exact ⟨rfl, HI.out.drewN nq⟩
              case rest =>
                obtain ⟨rfl, hI⟩ := hcut
                have hz := hI.M.z
                have hc2 := hI.M.c2
                obtain ⟨g2, e2, hx2⟩ := hI.cellH hi hsl
                cases e2
                replace hx2 := hx2.trans (congrArg (fun z => some (Value.int .i64 z)) HHI.out)
                have hxa : ∀ o, (wc.alloc o).cell? ⟨gH, i, none⟩ = some (.int .i64 h) := fun o => Lib.cell?_alloc_some _ hx2
                have HI2 := Lib.hid hI
                have hca : ∀ o, (wc.alloc o).cell? ⟨w.heap.size + 1, 2, none⟩ = some (.slice A7 E.length c7) := fun o => Lib.cell?_alloc_some _ hc2
                clear hI hsl hi hEl HI hB1
                go_wp2_with fail
                go_region_law (first
                  | (refine Kd.R_append_step k41 (w0 := wc.drew) (W := wc.drew) (w.heap.size + 2) rfl (.tmp 149) (.tmp 155) 25 41 (.agg #[.int .i64 0, .int .i64 0]) 16 rfl Try.underlying25 infoE rfl (by decide) (by decide) (.slice A7 E.length c7) E ⟨1, h⟩ [.int .i64 1, .int .i64 h] (fun _ => True) (fun _ => False) ?e1 ?e2 (k41_mkM _ _ _ (⟨1, h⟩ : S41)) (fun _ h => h.elim) (fun _ _ => trivial) (Kd.R_drew HI2.out.R) (Below.refl _ _) hz ?e3 ?_; (case e1 => go_simp); (case e2 => go_simp); (case e3 => have := HEl.out; omega); intro v1 w1 hR1 hb1 hg1 hat1; obtain ⟨A9, c9, rfl⟩ := Kd.R_slice hR1; obtain ⟨_, q1, q2⟩ := HI2.out.M.app (W1 := wc.drew) (below_drew (Below.refl _ _)) hg1 (fun k e => (R_lo HI2.out.R k e).1)))
                all_goals
                  have r1 := HI2.out.drew.push hg1 hR1
                  have hl9 : (E ++ [(⟨1, h⟩ : S41)]).length = E.length + 1 := by simp
                  rw [hl9] at r1
                  have hwi := w64n (n := i) (by have := HSl.out; have := HL.out; omega)
                  go_wp2_with fail
                  exact ⟨⟨i + 1, .slice A9 (E.length + 1) c9, HL.out, congrArg (Value.int .i64) hwi, by rw [HB2.out]; exact r1⟩, meas HL.out hwi⟩
          · have hi' : decide ((i : Int) < (H.length : Int)) = false := decide_eq_false (by omega)
            obtain rfl : i = H.length := by omega
            rw [List.take_length] at hI
            obtain ⟨A7, c7, rfl⟩ := Kd.R_slice hI.R
            obtain ⟨A8, c8, rfl⟩ := Kd.R_slice hI.M.R
            generalize hES : ents H = es at hI
            have HES := Lib.hid hES
            clear hES
            have hM2 := hI.M
            have hR2 := hI.R
            clear hI
            have a0 := hM2.c0
            have a1 := hM2.c1
            have a2_ := hM2.c2
            have a3 : ∀ i, wr.frozen? ⟨w.heap.size, i, none⟩ = false := fun i => by simp [World.frozen?, hM2.f6]
            have a4 : wr.cell? ⟨w.heap.size, 0, none⟩ = some (.int .i64 0) := by simp [World.cell?, hM2.f6]
            have a5 : wr.cell? ⟨w.heap.size, 1, none⟩ = some (.slice none 0 0) := by simp [World.cell?, hM2.f6]
            have a6 : wr.cell? ⟨w.heap.size, 2, none⟩ = some (.slice none 0 0) := by simp [World.cell?, hM2.f6]
            have a7 : wr.shape? w.heap.size = some (27, 3) := by simp [World.shape?, hM2.f6]
            clear hi
            go_wp2_with fail
            refine bodyPost_ret (v := .agg #[.int .i64 (l0.length + l1.length : Int), .slice A8 (bks l0 a2).length c8, .slice A7 es.length c7]) ?_ rfl ?_
            · have h5 := blk_set (blk_set (blk_set hM2.f6 0 (.int .i64 (l0.length + l1.length : Int))) 1 (.slice A8 (bks l0 a2).length c8)) 2 (.slice A7 es.length c7)
              generalize ((wr.setCell ⟨w.heap.size, 0, none⟩ (.int .i64 (l0.length + l1.length : Int))).setCell ⟨w.heap.size, 1, none⟩ (.slice A8 (bks l0 a2).length c8)).setCell ⟨w.heap.size, 2, none⟩ (.slice A7 es.length c7) = W5 at h5 ⊢
              have b0 : W5.cell? ⟨w.heap.size, 0, none⟩ = some (.int .i64 (l0.length + l1.length : Int)) := by simp [World.cell?, h5]
              have b1 : W5.cell? ⟨w.heap.size, 1, none⟩ = some (.slice A8 (bks l0 a2).length c8) := by simp [World.cell?, h5]
              have b2 : W5.cell? ⟨w.heap.size, 2, none⟩ = some (.slice A7 es.length c7) := by simp [World.cell?, h5]
              clear h5
              simp [results, Try.results9, go_sem, b0, b1, b2]
            · exact bout_end rfl (HE.out.trans HES.out) hM2 hR2
end Go.Proofs.Ytihanpdfnpgnfaa.H

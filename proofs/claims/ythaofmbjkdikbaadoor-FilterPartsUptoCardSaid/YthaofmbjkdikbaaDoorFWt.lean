/- Filter: the walk of the law FilterParts. (Written by hp/genwt.py.) -/
import Derived.Test.YthaofmbjkdikbaaDoorFSets
import Derived.Test.YthaofmbjkdikbaaDoorFSure
import Derived.Test.YthaofmbjkdikbaaDoorFKinds
import Derived.Deep.RegionHeld
namespace Go.Proofs.YthaofmbjkdikbaaDoor.F
open Go.RowKit Go.Lib Go.Sort Go.Shelf Go.Proofs.YthaofmbjkdikbaaDoorW.PrintWords Go.Proofs.YthaofmbjkdikbaaDoorW.PrintMore Go.Proofs.YthaofmbjkdikbaaDoor.PAll Go.Proofs.YthaofmbjkdikbaaDoor.V
set_option linter.unusedVariables false
theorem pts_of_C {w : World} {A : Option Addr} {xs : List Pt} (h : Kd.C k30 w A xs.length xs) (hn : 0 < xs.length) :
    ∃ b off, A = some ⟨b, off, none⟩ ∧ b < w.heap.size ∧ ∀ j (hj : j < xs.length), ∃ A1 c1 A2 c2, w.cell? ⟨b, off + j * 3, none⟩ = some (.int .i64 xs[j].f0) ∧ w.cell? ⟨b, off + j * 3 + 1, none⟩ = some (.slice A1 xs[j].f1.length c1) ∧ w.cell? ⟨b, off + j * 3 + 2, none⟩ = some (.slice A2 xs[j].f2.length c2) ∧ xs[j].f2.length ≤ c2 ∧ Kd.C k62 w A2 xs[j].f2.length xs[j].f2 := by
  obtain ⟨ad, A1, c1, A2, c2, rfl, h00, -⟩ := at_T30 h 0 (Int.le_refl _) (by omega)
  obtain ⟨b, off, sp⟩ := ad
  have hsp : sp = none := by
    cases sp with
    | none => rfl
    | some s =>
      simp only [Int.toNat_zero, Nat.zero_mul, Addr.add, if_true, World.cell?] at h00
      split at h00 <;> simp at h00
  subst hsp
  have hb : b < w.heap.size := World.block_lt_of_cell? w _ h00
  refine ⟨b, off, rfl, hb, fun j hj => ?_⟩
  obtain ⟨ad, A1, c1, A2, c2, e, h1, h2, h3, h4, h5, h6, h7⟩ := at_T30 h (j : Int) (by omega) (by omega)
  cases e
  have ea : ((⟨b, off, none⟩ : Addr).add ((j : Int).toNat * 3)) = ⟨b, off + j * 3, none⟩ := by unfold Addr.add; split <;> simp_all
  rw [ea] at h1 h2 h3
  have er : rd_T30 xs (j : Int) = xs[j] := by unfold rd_T30; simp [hj]
  rw [er] at h1 h2 h3 h4 h5 h6 h7
  exact ⟨A1, c1, A2, c2, h1, h2, h3, h6, h7⟩
/-- A row of the call's own: its points' insides lie in W. -/
def RowP (W : World) (base : Nat) (w : World) (v : Value) (ps : List Pt) : Prop := OwnRow (k30.K W) 30 3 w base v ps
theorem RowP.C {W w : World} {base : Nat} {v : Value} {ps : List Pt} (h : RowP W base w v ps) (hB : Below W.heap.size W w) : ∃ A c, v = .slice A ps.length c ∧ ps.length ≤ c ∧ Kd.C k30 w A ps.length ps := by
  obtain ⟨A, c, rfl, hc, hr⟩ := OwnRow.reads h
  exact ⟨A, c, rfl, hc, ReadsRow.imp_ hr (Below.refl _ _) (fun p cs hp => k30.K_below hB hp)⟩
theorem pts_full {w : World} {A : Option Addr} {xs : List Pt} (h : Kd.C k30 w A xs.length xs) (hn : 0 < xs.length) :
    ∃ b off, A = some ⟨b, off, none⟩ ∧ b < w.heap.size ∧ ∀ j (hj : j < xs.length), ∃ A1 c1 A2 c2, w.cell? ⟨b, off + j * 3, none⟩ = some (.int .i64 xs[j].f0) ∧ w.cell? ⟨b, off + j * 3 + 1, none⟩ = some (.slice A1 xs[j].f1.length c1) ∧ w.cell? ⟨b, off + j * 3 + 2, none⟩ = some (.slice A2 xs[j].f2.length c2) ∧ k30.K w xs[j] [.int .i64 xs[j].f0, .slice A1 xs[j].f1.length c1, .slice A2 xs[j].f2.length c2] := by
  obtain ⟨b, off, rfl, hb, _⟩ := pts_of_C h hn
  refine ⟨b, off, rfl, hb, fun j hj => ?_⟩
  obtain ⟨ad, A1, c1, A2, c2, e, h1, h2, h3, h4, h5, h6, h7⟩ := at_T30 h (j : Int) (by omega) (by omega)
  cases e
  have ea : ((⟨b, off, none⟩ : Addr).add ((j : Int).toNat * 3)) = ⟨b, off + j * 3, none⟩ := by unfold Addr.add; split <;> simp_all
  rw [ea] at h1 h2 h3
  have er : rd_T30 xs (j : Int) = xs[j] := by unfold rd_T30; simp [hj]
  rw [er] at h1 h2 h3 h4 h5 h6 h7
  exact ⟨A1, c1, A2, c2, h1, h2, h3, k30_mk w xs[j] h4 h5 h6 h7⟩
theorem infoP : (Tryd.prog.info? 30).map (fun i => (i.zero, i.size, i.bytes)) = some (some (.agg #[.int .i64 0, .slice none 0 0, .slice none 0 0]), 3, 56) := by kernel_rfl

theorem infoN : (Tryd.prog.info? 3).map (fun i => (i.zero, i.size, i.bytes)) = some (some (.int .i64 0), 1, 8) := by kernel_rfl
/-- A row of numbers of the call's own. -/
def RowN (W : World) (base : Nat) (w : World) (v : Value) (xs : List Int) : Prop := OwnRow ((Kd.int .i64).K W) 3 1 w base v xs
theorem RowN.C {W w : World} {base : Nat} {v : Value} {xs : List Int} (h : RowN W base w v xs) : ∃ A c, v = .slice A xs.length c ∧ xs.length ≤ c ∧ Kd.C (Kd.int .i64) w A xs.length xs := by
  obtain ⟨A, c, rfl, hc, hr⟩ := OwnRow.reads h
  exact ⟨A, c, rfl, hc, ReadsRow.imp_ hr (Below.refl _ _) (fun p cs hp => hp)⟩
theorem rows_ne {α β : Type} {R : α → List Value → Prop} {R2 : β → List Value → Prop} {e1 e2 : TypeId} {s1 s2 b1 b2 : Nat} {w : World} {v1 v2 : Value} {p1 : List α} {p2 : List β} (h1 : OwnRow R e1 s1 w b1 v1 p1) (h2 : OwnRow R2 e2 s2 w b2 v2 p2) (ht : e2 ≠ e1) : v1.ownBlock = none ∨ v1.ownBlock ≠ v2.ownBlock := by
  cases hv : v1.ownBlock with
  | none => exact .inl rfl
  | some g =>
    obtain ⟨inner, ho, -⟩ := h1
    obtain ⟨cells, hc⟩ := own_typed ho g hv
    exact .inr (OwnRow.ne_block h2 hc ht)
section
variable {ops : Array Oper} {rest : List Oper} {o : Oper} {a : Act} {Q : Exit → Act → World → Prop}
theorem wpl_p {W0 W : World} {base : Nat} {v : Value} {ps : List Pt} {p : Pt} {cs : List Value} (hgd : o.guard = none) (s x : Operand)
    (ho : o.op = .call { callee := .builtin .append, args := #[s, x], argTypes := #[36, 36] }) (hs : a.eval s = v) (hx : a.eval x = .slice (some ⟨W.heap.size, 0, none⟩) 1 1)
    (hp : k30.K W0 p cs) (hr : RowP W0 base W v ps) (hbase : base ≤ W.heap.size) (hl : ps.length ≤ 1048576)
    (h : ∀ v1 w1, RowP W0 base w1 v1 (ps ++ [p]) → Below base W w1 → W.grownBy w1 v.ownBlock → wpList Tryd.prog ops Q rest (a.put o.dst v1) w1) : wpList Tryd.prog ops Q (o :: rest) a (W.alloc (.cells cs.toArray 30)) :=
  OwnRow.append (w0 := W) base hgd s x 36 30 _ 3 56 ho Tryd.underlying36 infoP rfl (by decide) (by decide) v ps p cs hs hx hp (k30.K_len hp) (k30.K_one hp) hr (Below.refl _ _) hbase (by omega) (fun v1 w1 h1 h2 h3 _ => h v1 w1 h1 h2 h3)
theorem wpl_n {W0 W : World} {base : Nat} {v : Value} {ps : List Int} {p : Int} (hgd : o.guard = none) (s x : Operand)
    (ho : o.op = .call { callee := .builtin .append, args := #[s, x], argTypes := #[38, 38] }) (hs : a.eval s = v) (hx : a.eval x = .slice (some ⟨W.heap.size, 0, none⟩) 1 1)
    (hr : RowN W0 base W v ps) (hbase : base ≤ W.heap.size) (hl : ps.length ≤ 1048576)
    (h : ∀ v1 w1, RowN W0 base w1 v1 (ps ++ [p]) → Below base W w1 → W.grownBy w1 v.ownBlock → wpList Tryd.prog ops Q rest (a.put o.dst v1) w1) : wpList Tryd.prog ops Q (o :: rest) a (W.alloc (.cells #[.int .i64 p] 3)) :=
  OwnRow.append (w0 := W) base hgd s x 38 3 _ 1 8 ho Tryd.underlying38 infoN rfl (by decide) (by decide) v ps p [.int .i64 p] hs hx rfl rfl (by simp [Value.oneCell']) hr (Below.refl _ _) hbase (by omega) (fun v1 w1 h1 h2 h3 _ => h v1 w1 h1 h2 h3)
end
theorem has_calls (A : Option Addr) (c : Nat) (xs : List Int) (x : Int) (w : World) (hC : Kd.C (Kd.int .i64) w A xs.length xs) (hc : xs.length ≤ c) (hl : xs.length ≤ 1048576) :
    Calls Tryd.prog 21 #[.slice A xs.length c, .int .i64 x] w fun e w' => e = .returned (.bool (decide (x ∈ xs))) ∧ Below w.heap.size w w' := by
  obtain ⟨k, hk⟩ := (rhas_ev xs x (by omega)).rounds
  exact (lodestarref08_Has.calls k A c xs x _ w hC hc hk).mono (by rintro e w' ⟨rfl, h⟩; exact ⟨rfl, h.below⟩)
set_option maxRecDepth 100000 in
set_option maxHeartbeats 1000000 in
theorem not_calls (k : Int) (nm : ByteArray) (v0 v1 : Int) (v2 : ByteArray) (lo hi : Int) (cl : List Cn) (A7 : Option Addr) (c7 : Nat) (w : World) (hc7 : cl.length ≤ c7) (hC : Kd.C k26 w A7 cl.length cl) :
    Calls Tryd.prog 19 #[.agg #[.int .i64 k, .string nm, .int .i64 v0, .int .i64 v1, .string v2, .int .i64 lo, .int .i64 hi, .slice A7 cl.length c7]] w fun e w' => ∃ g, e = .returned (.agg #[.int .i64 6, .string ⟨#[]⟩, .int .i64 0, .int .i64 0, .string ⟨#[]⟩, .int .i64 0, .int .i64 0, .slice (some ⟨g, 0, none⟩) 1 1]) ∧ Kd.C k26 w' (some ⟨g, 0, none⟩) 1 [(⟨k, nm, ⟨v0, v1, v2⟩, lo, hi, cl⟩ : Cn)] ∧ Below w.heap.size w w' := by
  have hb1 : Below w.heap.size w (((w.alloc (.cells #[.int .i64 k, .string nm, .int .i64 v0, .int .i64 v1, .string v2, .int .i64 lo, .int .i64 hi, .slice A7 cl.length c7] 26)).alloc (.cells #[.int .i64 6, .string ⟨#[]⟩, .int .i64 0, .int .i64 0, .string ⟨#[]⟩, .int .i64 0, .int .i64 0, .slice (some ⟨w.heap.size + 1 + 1, 0, none⟩) 1 1] 26)).alloc (.cells #[.int .i64 k, .string nm, .int .i64 v0, .int .i64 v1, .string v2, .int .i64 lo, .int .i64 hi, .slice A7 cl.length c7] 26)) := (((Below.refl _ w).alloc (Nat.le_refl _) _).alloc (by simp) _).alloc (by simp <;> omega) _
  have hr : (((w.alloc (.cells #[.int .i64 k, .string nm, .int .i64 v0, .int .i64 v1, .string v2, .int .i64 lo, .int .i64 hi, .slice A7 cl.length c7] 26)).alloc (.cells #[.int .i64 6, .string ⟨#[]⟩, .int .i64 0, .int .i64 0, .string ⟨#[]⟩, .int .i64 0, .int .i64 0, .slice (some ⟨w.heap.size + 1 + 1, 0, none⟩) 1 1] 26)).alloc (.cells #[.int .i64 k, .string nm, .int .i64 v0, .int .i64 v1, .string v2, .int .i64 lo, .int .i64 hi, .slice A7 cl.length c7] 26)).heap[w.heap.size + 1]? = some (.cells #[.int .i64 6, .string ⟨#[]⟩, .int .i64 0, .int .i64 0, .string ⟨#[]⟩, .int .i64 0, .int .i64 0, .slice (some ⟨w.heap.size + 1 + 1, 0, none⟩) 1 1] 26 (0, 0)) := (Below.heap_alloc _ _ _ (by simp)).trans (by have h := World.alloc_heap_new (w.alloc (.cells #[.int .i64 k, .string nm, .int .i64 v0, .int .i64 v1, .string v2, .int .i64 lo, .int .i64 hi, .slice A7 cl.length c7] 26)) (.cells #[.int .i64 6, .string ⟨#[]⟩, .int .i64 0, .int .i64 0, .string ⟨#[]⟩, .int .i64 0, .int .i64 0, .slice (some ⟨w.heap.size + 1 + 1, 0, none⟩) 1 1] 26); rwa [World.size_alloc] at h)
  have hg : (((w.alloc (.cells #[.int .i64 k, .string nm, .int .i64 v0, .int .i64 v1, .string v2, .int .i64 lo, .int .i64 hi, .slice A7 cl.length c7] 26)).alloc (.cells #[.int .i64 6, .string ⟨#[]⟩, .int .i64 0, .int .i64 0, .string ⟨#[]⟩, .int .i64 0, .int .i64 0, .slice (some ⟨w.heap.size + 1 + 1, 0, none⟩) 1 1] 26)).alloc (.cells #[.int .i64 k, .string nm, .int .i64 v0, .int .i64 v1, .string v2, .int .i64 lo, .int .i64 hi, .slice A7 cl.length c7] 26)).heap[w.heap.size + 1 + 1]? = some (.cells #[.int .i64 k, .string nm, .int .i64 v0, .int .i64 v1, .string v2, .int .i64 lo, .int .i64 hi, .slice A7 cl.length c7] 26 (0, 0)) := by have h := World.alloc_heap_new ((w.alloc (.cells #[.int .i64 k, .string nm, .int .i64 v0, .int .i64 v1, .string v2, .int .i64 lo, .int .i64 hi, .slice A7 cl.length c7] 26)).alloc (.cells #[.int .i64 6, .string ⟨#[]⟩, .int .i64 0, .int .i64 0, .string ⟨#[]⟩, .int .i64 0, .int .i64 0, .slice (some ⟨w.heap.size + 1 + 1, 0, none⟩) 1 1] 26)) (.cells #[.int .i64 k, .string nm, .int .i64 v0, .int .i64 v1, .string v2, .int .i64 lo, .int .i64 hi, .slice A7 cl.length c7] 26); simpa [World.size_alloc] using h
  go_enter Tryd.func19, Tryd.ntmps19
  go_wp2_with fail
  generalize (((w.alloc (.cells #[.int .i64 k, .string nm, .int .i64 v0, .int .i64 v1, .string v2, .int .i64 lo, .int .i64 hi, .slice A7 cl.length c7] 26)).alloc (.cells #[.int .i64 6, .string ⟨#[]⟩, .int .i64 0, .int .i64 0, .string ⟨#[]⟩, .int .i64 0, .int .i64 0, .slice (some ⟨w.heap.size + 1 + 1, 0, none⟩) 1 1] 26)).alloc (.cells #[.int .i64 k, .string nm, .int .i64 v0, .int .i64 v1, .string v2, .int .i64 lo, .int .i64 hi, .slice A7 cl.length c7] 26)) = W3 at *
  have r0 := cell_of_blk hr (j := 0) rfl
  have r1 := cell_of_blk hr (j := 1) rfl
  have r2 := cell_of_blk hr (j := 2) rfl
  have r3 := cell_of_blk hr (j := 3) rfl
  have r4 := cell_of_blk hr (j := 4) rfl
  have r5 := cell_of_blk hr (j := 5) rfl
  have r6 := cell_of_blk hr (j := 6) rfl
  have r7 := cell_of_blk hr (j := 7) rfl
  exact bodyPost_ret (v := .agg #[.int .i64 6, .string ⟨#[]⟩, .int .i64 0, .int .i64 0, .string ⟨#[]⟩, .int .i64 0, .int .i64 0, .slice (some ⟨w.heap.size + 1 + 1, 0, none⟩) 1 1]) (by simp [results, Tryd.results19, go_sem, r0, r1, r2, r3, r4, r5, r6, r7]) rfl ⟨_, rfl, C_of_block k26 hg (Reps.snoc (Reps.none _ _) (k26_mk W3 (⟨k, nm, ⟨v0, v1, v2⟩, lo, hi, cl⟩ : Cn) hc7 (Kd.C_below hC hb1)) rfl) (by simp), hb1⟩
set_option maxRecDepth 100000 in
set_option maxHeartbeats 2000000 in
theorem parts_law (k : Int) (nm : ByteArray) (v0 v1 : Int) (v2 : ByteArray) (lo hi : Int) (cl : List Cn) (hs : Small (⟨k, nm, ⟨v0, v1, v2⟩, lo, hi, cl⟩ : Cn)) (A7 : Option Addr) (c7 : Nat) (A : Option Addr) (n : Nat) (l : List Pt) (w : World) (hC : Kd.C k26 w A7 cl.length cl) (hc7 : cl.length ≤ c7) (hL : Kd.C k30 w A l.length l) (hn : l.length ≤ n) (hl : l.length ≤ 1048576) (hf : ∀ p ∈ l, p.f2.length ≤ 1048576) :
    Calls Tryd.prog 6 #[.agg #[.int .i64 k, .string nm, .int .i64 v0, .int .i64 v1, .string v2, .int .i64 lo, .int .i64 hi, .slice A7 cl.length c7], .slice A l.length n] w fun e w' => e = .returned (.bool true) ∧ Below w.heap.size w w' := by
  have hb0 : Below w.heap.size w (w.alloc (.cells #[.int .i64 k, .string nm, .int .i64 v0, .int .i64 v1, .string v2, .int .i64 lo, .int .i64 hi, .slice A7 cl.length c7] 26)) := (Below.refl _ w).alloc (Nat.le_refl _) _
  have hV1 := World.alloc_heap_new w (.cells #[.int .i64 k, .string nm, .int .i64 v0, .int .i64 v1, .string v2, .int .i64 lo, .int .i64 hi, .slice A7 cl.length c7] 26)
  have hz1 : w.heap.size < (w.alloc (.cells #[.int .i64 k, .string nm, .int .i64 v0, .int .i64 v1, .string v2, .int .i64 lo, .int .i64 hi, .slice A7 cl.length c7] 26)).heap.size := by simp
  have HS := Lib.hid hs
  have HFP := Lib.hid hf
  clear hs hf
  go_enter Tryd.func6, Tryd.ntmps6
  go_upto_block 0 with (fail)
  generalize w.alloc (.cells #[.int .i64 k, .string nm, .int .i64 v0, .int .i64 v1, .string v2, .int .i64 lo, .int .i64 hi, .slice A7 cl.length c7] 26) = w1 at *
  have HC := Lib.hid (Kd.C_below hC hb0)
  have HL := Lib.hid (Kd.C_below hL hb0)
  have HB0 := Lib.hid hb0
  have HV1 := Lib.hid hV1
  clear hb0 hC hL hV1
  go_cut [5, 6] (fun r5 r6 wc => ∃ (va vo : Value), va = r5 ∧ vo = r6 ∧ RowN w1 w1.heap.size wc va ((firsts l).map (·.f0)) ∧ RowP w1 w1.heap.size wc vo (firsts l) ∧ Below w1.heap.size w1 wc)
  case first =>
    go_wp2_with fail
    go_loopw [5, 6, 7] (fun r5 r6 s wr => ∃ (va vo : Value) (i : Nat), va = r5 ∧ vo = r6 ∧ i ≤ l.length ∧ s = .int .i64 i ∧ RowN w1 w1.heap.size wr va ((firsts (l.take i)).map (·.f0)) ∧ RowP w1 w1.heap.size wr vo (firsts (l.take i)) ∧ Below w1.heap.size w1 wr) (fun _ _ s _ => l.length - (intOf s).toNat)
    case atStart => exact ⟨_, _, 0, rfl, rfl, Nat.zero_le _, rfl, OwnRow.none_ _ _ _ _ _, OwnRow.none_ _ _ _ _ _, Below.refl _ _⟩
    case round =>
      obtain ⟨va, vo, i, rfl, rfl, hi, rfl, hN, hR, hB⟩ := hrel
      have HN := Lib.hid hN
      have HR := Lib.hid hR
      have HB := Lib.hid hB
      by_cases hlt : i < l.length
      · have hlt' : decide ((i : Int) < (l.length : Int)) = true := decide_eq_true (by omega)
        obtain ⟨b0, o0, rfl, hb0, hcs0⟩ := pts_full HL.out (by omega)
        obtain ⟨A1, c1, A2, c2, x0, x1, x2, hK⟩ := hcs0 i hlt
        have HT : Hid (firsts (l.take (i + 1)) = addF (firsts (l.take i)) l[i]) := Lib.hid (by rw [List.take_succ_eq_append_getElem hlt, firsts_snoc])
        have hol : (firsts (l.take i)).length ≤ 1048576 := by have := firsts_le (l.take i); rw [List.length_take] at this; omega
        have HK := Lib.hid hK
        have p1 := eq_true (show (0 : Int) ≤ (i : Int) by omega)
        have p2 := eq_true (show (i : Int) < (l.length : Int) by omega)
        have p3 : (i < l.length) = True := eq_true hlt
        obtain ⟨Aa, ca, rfl, hca, hCa⟩ := RowN.C hN
        have d0 := (hB.cell (p := ⟨b0, o0 + i * 3, none⟩) hb0).trans x0
        have d1 := (hB.cell (p := ⟨b0, o0 + i * 3 + 1, none⟩) hb0).trans x1
        have d2 := (hB.cell (p := ⟨b0, o0 + i * 3 + 2, none⟩) hb0).trans x2
        have hml : ((firsts (l.take i)).map (·.f0)).length ≤ 1048576 := by rw [List.length_map]; exact hol
        have ch := has_calls Aa ca _ l[i].f0 wr hCa hca hml
        rw [hasId_mem] at ch
        clear hN hR hcs0 hK hCa x0 x1 x2
        generalize l[i] = p at *
        generalize firsts (l.take i) = oo at *
        have HTM : Hid (∀ q : Pt, (oo ++ [q]).map (·.f0) = oo.map (·.f0) ++ [q.f0]) := Lib.hid (fun q => by simp)
        generalize hxs : oo.map (·.f0) = xs at *
        have HXS := Lib.hid hxs
        clear hxs
        cases hh : hasId oo p.f0 with
        | true =>
          rw [hh] at ch
          have hT2 : addF oo p = oo := by unfold addF; rw [if_pos hh]
          have HT2 := Lib.hid hT2
          have HCH := Lib.hid ch
          clear hT2 hB ch hh
          go_wp2_with (first | (go_at_call 21; refine HCH.out.mono ?_; rintro e w5 ⟨rfl, hB5⟩))
          go_roundw
          case rel => exact ⟨_, vo, i + 1, rfl, rfl, by omega, by go_num, by rw [HT.out, HT2.out, HXS.out]; exact OwnRow.below HN.out hB5, by rw [HT.out, HT2.out]; exact OwnRow.below HR.out hB5, HB.out.trans (hB5.mono HB.out.size)⟩
          case measure => simp [intOf]; omega
        | false =>
          rw [hh] at ch
          have hT2 : addF oo p = oo ++ [p] := by unfold addF; rw [if_neg (by rw [hh]; simp)]
          have HT2 := Lib.hid hT2
          have HCH := Lib.hid ch
          have hbr := hB.size
          clear hT2 hB ch hh
          go_wp2_with (first
            | (go_at_call 21; refine HCH.out.mono ?_; rintro e w5 ⟨rfl, hB5⟩
               have hN5 := OwnRow.below HN.out hB5
               have hR5 := OwnRow.below HR.out hB5
               have hb15 : w1.heap.size ≤ w5.heap.size := Nat.le_trans hbr hB5.size
               replace d0 := pw_cell_below hB5 d0
               replace d1 := pw_cell_below hB5 d1
               replace d2 := pw_cell_below hB5 d2
               have HN5 := Lib.hid hN5
               have HR5 := Lib.hid hR5
               have HB5 := Lib.hid (HB.out.trans (hB5.mono HB.out.size))
               clear hN5 hR5 hB5)
            | ((with_reducible refine gate_builtin (b := .append) (xs := #[.tmp 24, .tmp 30]) rfl ?_); at_builtin; refine wpl_n (W0 := w1) (W := w5) (base := w1.heap.size) (v := .slice Aa xs.length ca) (ps := xs) (p := p.f0) rfl (.tmp 24) (.tmp 30) rfl rfl rfl HN5.out hb15 hml ?_; intro va2 w6 hN6 hB6 hg6
               have hR6 := OwnRow.other HR5.out hg6 (rows_ne HR5.out HN5.out (by decide))
               have hb16 : w1.heap.size ≤ w6.heap.size := Nat.le_trans hb15 hB6.size
               replace d0 := (hB6.cell (p := ⟨b0, o0 + i * 3, none⟩) hb0).trans d0
               replace d1 := (hB6.cell (p := ⟨b0, o0 + i * 3 + 1, none⟩) hb0).trans d1
               replace d2 := (hB6.cell (p := ⟨b0, o0 + i * 3 + 2, none⟩) hb0).trans d2
               have HN6 := Lib.hid hN6
               have HR6 := Lib.hid hR6
               have HB6 := Lib.hid (HB5.out.trans hB6)
               clear hN6 hR6 hB6 hg6)
            | ((with_reducible refine gate_builtin (b := .append) (xs := #[.tmp 32, .tmp 37]) rfl ?_); at_builtin; refine wpl_p (W0 := w1) (W := w6) (base := w1.heap.size) (v := vo) (ps := oo) (p := p) (cs := [.int .i64 p.f0, .slice A1 p.f1.length c1, .slice A2 p.f2.length c2]) rfl (.tmp 32) (.tmp 37) rfl rfl rfl HK.out HR6.out hb16 hol ?_; intro vo2 w7 hR7 hB7 hg7
               have hN7 := OwnRow.other HN6.out hg7 (rows_ne HN6.out HR6.out (by decide))
               have HN7 := Lib.hid hN7
               have HR7 := Lib.hid hR7
               have HB7 := Lib.hid (HB6.out.trans hB7)
               clear hN7 hR7 hB7 hg7))
          go_roundw
          case rel => exact ⟨va2, vo2, i + 1, rfl, rfl, by omega, by go_num, by rw [HT.out, HT2.out, HTM.out]; exact HN7.out, by rw [HT.out, HT2.out]; exact HR7.out, HB7.out⟩
          case measure => simp [intOf]; omega
      · have hlt' : decide ((i : Int) < (l.length : Int)) = false := decide_eq_false (by omega)
        obtain rfl : i = l.length := by omega
        clear hN hR hB
        go_wp2_with fail
        go_meet
        case rel => exact ⟨va, vo, rfl, rfl, by have := HN.out; rwa [List.take_length] at this, by have := HR.out; rwa [List.take_length] at this, HB.out⟩
  case rest =>
    obtain ⟨va, vo, rfl, rfl, hN, hR, hB⟩ := hcut
    obtain ⟨Aa, ca, rfl, hca, hCa⟩ := RowN.C hN
    obtain ⟨Ao, co, rfl, hco, hCo⟩ := RowP.C hR hB
    have hbx := (hB.block w.heap.size hz1).trans HV1.out
    have hu := firsts_unlike l
    have hle : (firsts l).length ≤ 1048576 := by have := firsts_le l; omega
    have hfO : ∀ p ∈ firsts l, p.f2.length ≤ 1048576 := fun p hp => HFP.out p (firsts_mem l p hp)
    have hCc := Kd.C_below HC.out hB
    have HPN := Lib.hid (parts_none hu (⟨k, nm, ⟨v0, v1, v2⟩, lo, hi, cl⟩ : Cn))
    have HPA := Lib.hid (parts_all (firsts l) (⟨k, nm, ⟨v0, v1, v2⟩, lo, hi, cl⟩ : Cn))
    have HPL := Lib.hid (parts_len hu (⟨k, nm, ⟨v0, v1, v2⟩, lo, hi, cl⟩ : Cn))
    have hla := Nat.le_trans (unionL_le (idsOf (⟨k, nm, ⟨v0, v1, v2⟩, lo, hi, cl⟩ : Cn) (firsts l))) (Nat.le_trans (idsOf_le (⟨k, nm, ⟨v0, v1, v2⟩, lo, hi, cl⟩ : Cn) (firsts l)) hle)
    have hlb := Nat.le_trans (unionL_le (idsOf (notC (⟨k, nm, ⟨v0, v1, v2⟩, lo, hi, cl⟩ : Cn)) (firsts l))) (Nat.le_trans (idsOf_le (notC (⟨k, nm, ⟨v0, v1, v2⟩, lo, hi, cl⟩ : Cn)) (firsts l)) hle)
    have KI : ∀ W', Below wc.heap.size wc W' → Calls Tryd.prog 17 #[.agg #[.int .i64 k, .string nm, .int .i64 v0, .int .i64 v1, .string v2, .int .i64 lo, .int .i64 hi, .slice A7 cl.length c7], .slice Ao (firsts l).length co] W' fun e w' => ∃ A3 c3, e = .returned (.slice A3 (unionL (idsOf (⟨k, nm, ⟨v0, v1, v2⟩, lo, hi, cl⟩ : Cn) (firsts l))).length c3) ∧ (unionL (idsOf (⟨k, nm, ⟨v0, v1, v2⟩, lo, hi, cl⟩ : Cn) (firsts l))).length ≤ c3 ∧ Kd.C (Kd.int .i64) w' A3 (unionL (idsOf (⟨k, nm, ⟨v0, v1, v2⟩, lo, hi, cl⟩ : Cn) (firsts l))).length (unionL (idsOf (⟨k, nm, ⟨v0, v1, v2⟩, lo, hi, cl⟩ : Cn) (firsts l))) ∧ Below W'.heap.size W' w' := fun W' h => ids_calls HS.out (firsts l) hle hfO A7 c7 Ao co W' (Kd.C_below hCc h) hc7 (Kd.C_below hCo h) hco
    have KN : ∀ W', Below wc.heap.size wc W' → Calls Tryd.prog 19 #[.agg #[.int .i64 k, .string nm, .int .i64 v0, .int .i64 v1, .string v2, .int .i64 lo, .int .i64 hi, .slice A7 cl.length c7]] W' fun e w' => ∃ g, e = .returned (.agg #[.int .i64 6, .string ⟨#[]⟩, .int .i64 0, .int .i64 0, .string ⟨#[]⟩, .int .i64 0, .int .i64 0, .slice (some ⟨g, 0, none⟩) 1 1]) ∧ Kd.C k26 w' (some ⟨g, 0, none⟩) 1 [(⟨k, nm, ⟨v0, v1, v2⟩, lo, hi, cl⟩ : Cn)] ∧ Below W'.heap.size W' w' := fun W' h => not_calls k nm v0 v1 v2 lo hi cl A7 c7 W' hc7 (Kd.C_below hCc h)
    have KM : ∀ W' g, Below wc.heap.size wc W' → Kd.C k26 W' (some ⟨g, 0, none⟩) 1 [(⟨k, nm, ⟨v0, v1, v2⟩, lo, hi, cl⟩ : Cn)] → Calls Tryd.prog 17 #[.agg #[.int .i64 6, .string ⟨#[]⟩, .int .i64 0, .int .i64 0, .string ⟨#[]⟩, .int .i64 0, .int .i64 0, .slice (some ⟨g, 0, none⟩) 1 1], .slice Ao (firsts l).length co] W' fun e w' => ∃ A3 c3, e = .returned (.slice A3 (unionL (idsOf (notC (⟨k, nm, ⟨v0, v1, v2⟩, lo, hi, cl⟩ : Cn)) (firsts l))).length c3) ∧ (unionL (idsOf (notC (⟨k, nm, ⟨v0, v1, v2⟩, lo, hi, cl⟩ : Cn)) (firsts l))).length ≤ c3 ∧ Kd.C (Kd.int .i64) w' A3 (unionL (idsOf (notC (⟨k, nm, ⟨v0, v1, v2⟩, lo, hi, cl⟩ : Cn)) (firsts l))).length (unionL (idsOf (notC (⟨k, nm, ⟨v0, v1, v2⟩, lo, hi, cl⟩ : Cn)) (firsts l))) ∧ Below W'.heap.size W' w' := fun W' g h hg => ids_calls (small_not HS.out) (firsts l) hle hfO (some ⟨g, 0, none⟩) 1 Ao co W' hg (Nat.le_refl _) (Kd.C_below hCo h) hco
    have HKI : Aside _ := KI
    have HKN : Aside _ := KN
    have HKM : Aside _ := KM
    have HCA := Lib.hid hCa
    have HBw := Lib.hid (HB0.out.trans (hB.mono (by omega)))
    have hzw : w.heap.size ≤ wc.heap.size := HBw.out.size
    have hlx : ((firsts l).map (·.f0)).length ≤ 1048576 := by rw [List.length_map]; exact hle
    have hll : ((firsts l).map (·.f0)).length = (firsts l).length := by rw [List.length_map]
    clear KI KN KM hN hR hB hCa hCo hCc hu hfO HFP
    generalize unionL (idsOf (⟨k, nm, ⟨v0, v1, v2⟩, lo, hi, cl⟩ : Cn) (firsts l)) = xa at *
    generalize unionL (idsOf (notC (⟨k, nm, ⟨v0, v1, v2⟩, lo, hi, cl⟩ : Cn)) (firsts l)) = xb at *
    generalize (firsts l).map (·.f0) = xs at *
    generalize (firsts l).length = no at *
    have KS0 : wc.drew.cell? ⟨w.heap.size, 0, none⟩ = some (.int .i64 k) ∧ wc.drew.cell? ⟨w.heap.size, 1, none⟩ = some (.string nm) ∧ wc.drew.cell? ⟨w.heap.size, 2, none⟩ = some (.int .i64 v0) ∧ wc.drew.cell? ⟨w.heap.size, 3, none⟩ = some (.int .i64 v1) ∧ wc.drew.cell? ⟨w.heap.size, 4, none⟩ = some (.string v2) ∧ wc.drew.cell? ⟨w.heap.size, 5, none⟩ = some (.int .i64 lo) ∧ wc.drew.cell? ⟨w.heap.size, 6, none⟩ = some (.int .i64 hi) ∧ wc.drew.cell? ⟨w.heap.size, 7, none⟩ = some (.slice A7 cl.length c7) ∧ Hid (Below wc.heap.size wc wc.drew) := ⟨cell_of_blk (W := wc) hbx (j := 0) rfl, cell_of_blk (W := wc) hbx (j := 1) rfl, cell_of_blk (W := wc) hbx (j := 2) rfl, cell_of_blk (W := wc) hbx (j := 3) rfl, cell_of_blk (W := wc) hbx (j := 4) rfl, cell_of_blk (W := wc) hbx (j := 5) rfl, cell_of_blk (W := wc) hbx (j := 6) rfl, cell_of_blk (W := wc) hbx (j := 7) rfl, Lib.hid ⟨rfl, rfl, rfl, Nat.le_refl _, fun _ _ => rfl⟩⟩
    have KS1 : ∀ W1 W2 : World, Below W1.heap.size W1 W2 → (W1.cell? ⟨w.heap.size, 0, none⟩ = some (.int .i64 k) ∧ W1.cell? ⟨w.heap.size, 1, none⟩ = some (.string nm) ∧ W1.cell? ⟨w.heap.size, 2, none⟩ = some (.int .i64 v0) ∧ W1.cell? ⟨w.heap.size, 3, none⟩ = some (.int .i64 v1) ∧ W1.cell? ⟨w.heap.size, 4, none⟩ = some (.string v2) ∧ W1.cell? ⟨w.heap.size, 5, none⟩ = some (.int .i64 lo) ∧ W1.cell? ⟨w.heap.size, 6, none⟩ = some (.int .i64 hi) ∧ W1.cell? ⟨w.heap.size, 7, none⟩ = some (.slice A7 cl.length c7) ∧ Hid (Below wc.heap.size wc W1)) → (W2.cell? ⟨w.heap.size, 0, none⟩ = some (.int .i64 k) ∧ W2.cell? ⟨w.heap.size, 1, none⟩ = some (.string nm) ∧ W2.cell? ⟨w.heap.size, 2, none⟩ = some (.int .i64 v0) ∧ W2.cell? ⟨w.heap.size, 3, none⟩ = some (.int .i64 v1) ∧ W2.cell? ⟨w.heap.size, 4, none⟩ = some (.string v2) ∧ W2.cell? ⟨w.heap.size, 5, none⟩ = some (.int .i64 lo) ∧ W2.cell? ⟨w.heap.size, 6, none⟩ = some (.int .i64 hi) ∧ W2.cell? ⟨w.heap.size, 7, none⟩ = some (.slice A7 cl.length c7) ∧ Hid (Below wc.heap.size wc W2)) := fun W1 W2 h ⟨h0, h1, h2, h3, h4, h5, h6, h7, h8⟩ => ⟨pw_cell_below h h0, pw_cell_below h h1, pw_cell_below h h2, pw_cell_below h h3, pw_cell_below h h4, pw_cell_below h h5, pw_cell_below h h6, pw_cell_below h h7, Lib.hid (h8.out.trans (h.mono h8.out.size))⟩
    have HKS0 : Aside _ := KS0
    have HKS1 : Aside _ := KS1
    clear KS0 KS1 hbx
    go_upto_region 9 with (fail)
    go_region_held (fun w' => w'.cell? ⟨w.heap.size, 0, none⟩ = some (.int .i64 k) ∧ w'.cell? ⟨w.heap.size, 1, none⟩ = some (.string nm) ∧ w'.cell? ⟨w.heap.size, 2, none⟩ = some (.int .i64 v0) ∧ w'.cell? ⟨w.heap.size, 3, none⟩ = some (.int .i64 v1) ∧ w'.cell? ⟨w.heap.size, 4, none⟩ = some (.string v2) ∧ w'.cell? ⟨w.heap.size, 5, none⟩ = some (.int .i64 lo) ∧ w'.cell? ⟨w.heap.size, 6, none⟩ = some (.int .i64 hi) ∧ w'.cell? ⟨w.heap.size, 7, none⟩ = some (.slice A7 cl.length c7) ∧ Hid (Below wc.heap.size wc w')) (first | exact HKS0.out | assumption | (exact HKS1.out _ _ (by assumption) (by assumption))) (first
      | (go_at_call 17; with_reducible refine Calls.mono (HKI.out _ ?hb) ?_; (case hb => exact Hid.out (And.right (And.right (And.right (And.right (And.right (And.right (And.right (And.right (by assumption)))))))))); rintro e w11 ⟨A3, c3, rfl, h3, hC3, hB11⟩)
      | (go_at_call 19; with_reducible refine Calls.mono (HKN.out _ ?hb) ?_; (case hb => exact Hid.out (And.right (And.right (And.right (And.right (And.right (And.right (And.right (And.right (by assumption)))))))))); rintro e w12 ⟨g, rfl, hCg, hB12⟩; have hC3' := Kd.C_below hC3 hB12)
      | (go_at_call 17; with_reducible refine Calls.mono (HKM.out _ g ?hb hCg) ?_; (case hb => exact Hid.out (And.right (And.right (And.right (And.right (And.right (And.right (And.right (And.right (by assumption)))))))))); rintro e w13 ⟨A4, c4, rfl, h4, hC4, hB13⟩; have hC3'' := Kd.C_below hC3' hB13))
    have hz13 : Hid (Below wc.heap.size wc w13) := And.right (And.right (And.right (And.right (And.right (And.right (And.right (And.right (by assumption))))))))
    have HC3 := Lib.hid hC3''
    have HC4 := Lib.hid hC4
    have HC5 := Lib.hid (Kd.C_below HCA.out hz13.out)
    clear hC3 hC3' hC3'' hC4 hCg
    obtain ⟨k1, hk1⟩ := (rinter_ev xa xb (by omega)).rounds
    obtain ⟨k2, hk2⟩ := (runion_ev xa xb (by omega)).rounds
    obtain ⟨k3, hk3⟩ := (set_ev xs (by omega)).rounds
    obtain ⟨k4, hk4⟩ := same_self (H.setL xs) (Nat.le_trans (H.setL_le xs) hlx)
    rw [HPN.out] at hk1
    rw [HPA.out] at hk2
    have HK1 := Lib.hid hk1
    have HK2 := Lib.hid hk2
    have HK3 := Lib.hid hk3
    have HK4 := Lib.hid hk4
    have q0 : IntKind.i64.wrap ((xa.length : Int) + (xb.length : Int)) = (xa.length : Int) + (xb.length : Int) := IntWalk.i64_in _ (by omega)
    have q1 : ((xa.length : Int) + (xb.length : Int) == (no : Int)) = true := by rw [beq_iff_eq]; have := HPL.out; omega
    have HLL := Lib.hid hll
    have HCX := Lib.hid (show xs.length ≤ ca from hca)
    clear hk1 hk2 hk3 hk4 hll
    generalize H.setL xs = ys at *
    go_wp2_with (first
      | (go_at_call 22; refine (lodestarref08_Inter.calls k1 A3 c3 xa A4 c4 xb [] _ HC3.out h3 HC4.out h4 HK1.out).mono ?_; rintro e w14 ⟨u, rfl, hR, hB14⟩; obtain ⟨A5, c5, rfl, h5, hC5⟩ := Kd.R_reads hR; have HS14 := Lib.hid hB14; clear hR hC5 hB14)
      | (go_at_call 23; refine (lodestarref08_Union.calls k2 A3 c3 xa A4 c4 xb ys _ (Kd.C_below HC3.out HS14.out) h3 (Kd.C_below HC4.out HS14.out) h4 HK2.out).mono ?_; rintro e w15 ⟨u, rfl, hR, hB15⟩; obtain ⟨A6, c6, rfl, h6, hC6⟩ := Kd.R_reads hR; have HC6 := Lib.hid hC6; have HS15 := Lib.hid (HS14.out.trans (hB15.mono HS14.out.size)); clear hR hC6 hB15)
      | (go_at_call 24; have cS := lodestarref08_Set.calls k3 Aa ca xs ys w15 (Kd.C_below HC5.out HS15.out) HCX.out HK3.out; rw [HLL.out] at cS; refine cS.mono ?_; clear cS; rintro e w16 ⟨u, rfl, hR, hB16⟩; obtain ⟨A8, c8, rfl, h8, hC8⟩ := Kd.R_reads hR; have HC8 := Lib.hid hC8; have HC9 := Lib.hid (Kd.C_below HC6.out hB16); have HS16 := Lib.hid (HS15.out.trans (hB16.mono HS15.out.size)); clear hR hC8 hB16)
      | (go_at_call 16; refine (lodestarref08_Same.calls k4 A6 c6 ys A8 c8 ys true _ HC9.out h6 HC8.out h8 HK4.out).mono ?_; rintro e w17 ⟨rfl, hB17⟩; have HS17 := Lib.hid (HS16.out.trans (hB17.below.mono HS16.out.size)); clear hB17)
      | (go_at_call 15; refine Calls.mono (sure_calls _) ?_; rintro e w18 ⟨rfl, hB18⟩; have HS18 := Lib.hid (HS17.out.trans (hB18.mono HS17.out.size)); clear hB18))
    go_ret
    exact ⟨rfl, HBw.out.trans ((hz13.out.trans (HS18.out.mono hz13.out.size)).mono hzw)⟩
end Go.Proofs.YthaofmbjkdikbaaDoor.F
namespace Go.Proofs.YthaofmbjkdikbaaDoor.H
open Go.RowKit Go.Lib Go.Proofs.YthaofmbjkdikbaaDoorW.PrintWords Go.Proofs.YthaofmbjkdikbaaDoor.PAll Go.Proofs.YthaofmbjkdikbaaDoor.V Go.Proofs.YthaofmbjkdikbaaDoor.R Go.Proofs.YthaofmbjkdikbaaDoor.F
theorem filterParts_walk (cs : List Value) (c : Cn) (A : Option Addr) (n : Nat) (l : List Pt) (W : World) (hK : k26.K W c cs) (hs : Small c) (hC : Kd.C k30 W A l.length l) (hn : l.length ≤ n) (hG : AllG GPt l) :
    Calls Tryd.prog 6 #[.agg cs.toArray, .slice A l.length n] W fun e W' => e = .returned (.bool true) ∧ Below W.heap.size W W' := by
  obtain ⟨A7, c7, rfl, h7, hC7⟩ := k26_open hK
  obtain ⟨k, nm, ⟨v0, v1, v2⟩, lo, hi, cl⟩ := c
  exact parts_law k nm v0 v1 v2 lo hi cl hs A7 c7 A n l W hC7 h7 hC hn hG.1 (fun p hp => (hG.2 p hp).2.2.1)
end Go.Proofs.YthaofmbjkdikbaaDoor.H

/- Filter: the walk of the law FilterPasses. (Written by hp/genwp.py.) -/
import Derived.Test.YthaofmbjkdikbaaDoorFTree
import Derived.Test.YthaofmbjkdikbaaDoorFSure
import Derived.Test.YthaofmbjkdikbaaDoorFKinds
import Derived.Deep.RegionHeld
namespace Go.Proofs.YthaofmbjkdikbaaDoor.F
open Go.RowKit Go.Lib Go.Sort Go.Shelf Go.Proofs.YthaofmbjkdikbaaDoorW.PrintWords Go.Proofs.YthaofmbjkdikbaaDoor.PAll Go.Proofs.YthaofmbjkdikbaaDoor.V
set_option linter.unusedVariables false
set_option maxRecDepth 100000 in
set_option maxHeartbeats 4000000 in
theorem passes_law (k : Int) (nm : ByteArray) (v0 v1 : Int) (v2 : ByteArray) (lo hi : Int) (l : List Cn) (hs : Small (⟨k, nm, ⟨v0, v1, v2⟩, lo, hi, l⟩ : Cn)) (A7 : Option Addr) (c7 : Nat) (id : Int) (A1 : Option Addr) (c1 : Nat) (vs : List S92) (A2 : Option Addr) (c2 : Nat) (fs : List Fi) (w : World) (hC : Kd.C k26 w A7 l.length l) (hc7 : l.length ≤ c7) (hC2 : Kd.C k62 w A2 fs.length fs) (hc2 : fs.length ≤ c2) (hfs : fs.length ≤ 1048576) :
    Calls Tryd.prog 3 #[.agg #[.int .i64 k, .string nm, .int .i64 v0, .int .i64 v1, .string v2, .int .i64 lo, .int .i64 hi, .slice A7 l.length c7], .agg #[.int .i64 id, .slice A1 vs.length c1, .slice A2 fs.length c2]] w fun e w' => e = .returned (.bool true) ∧ Below w.heap.size w w' := by
  obtain ⟨kt, ht⟩ := twin_all hs
  obtain ⟨ks, ts, hs1, hs2⟩ := size_all hs
  obtain ⟨kd, td, hd1, hd2⟩ := depth_all hs
  obtain ⟨km, hm⟩ := same_all hs
  dsimp only at ht hs1 hs2 hd1 hd2 hm
  have HS := Lib.hid hs
  clear hs
  have hV1 : ((w.alloc (.cells #[.int .i64 k, .string nm, .int .i64 v0, .int .i64 v1, .string v2, .int .i64 lo, .int .i64 hi, .slice A7 l.length c7] 26)).alloc (.cells #[.int .i64 id, .slice A1 vs.length c1, .slice A2 fs.length c2] 30)).heap[w.heap.size]? = some (.cells #[.int .i64 k, .string nm, .int .i64 v0, .int .i64 v1, .string v2, .int .i64 lo, .int .i64 hi, .slice A7 l.length c7] 26 (0, 0)) := (Below.heap_alloc _ _ _ (by simp)).trans (World.alloc_heap_new w _)
  have hV2 : ((w.alloc (.cells #[.int .i64 k, .string nm, .int .i64 v0, .int .i64 v1, .string v2, .int .i64 lo, .int .i64 hi, .slice A7 l.length c7] 26)).alloc (.cells #[.int .i64 id, .slice A1 vs.length c1, .slice A2 fs.length c2] 30)).heap[w.heap.size + 1]? = some (.cells #[.int .i64 id, .slice A1 vs.length c1, .slice A2 fs.length c2] 30 (0, 0)) := by have h := World.alloc_heap_new (w.alloc (.cells #[.int .i64 k, .string nm, .int .i64 v0, .int .i64 v1, .string v2, .int .i64 lo, .int .i64 hi, .slice A7 l.length c7] 26)) (.cells #[.int .i64 id, .slice A1 vs.length c1, .slice A2 fs.length c2] 30); rwa [World.size_alloc] at h
  have hb0 : Below w.heap.size w ((w.alloc (.cells #[.int .i64 k, .string nm, .int .i64 v0, .int .i64 v1, .string v2, .int .i64 lo, .int .i64 hi, .slice A7 l.length c7] 26)).alloc (.cells #[.int .i64 id, .slice A1 vs.length c1, .slice A2 fs.length c2] 30)) := ((Below.refl _ w).alloc (Nat.le_refl _) _).alloc (by simp) _
  have hz2 : w.heap.size + 2 ≤ ((w.alloc (.cells #[.int .i64 k, .string nm, .int .i64 v0, .int .i64 v1, .string v2, .int .i64 lo, .int .i64 hi, .slice A7 l.length c7] 26)).alloc (.cells #[.int .i64 id, .slice A1 vs.length c1, .slice A2 fs.length c2] 30)).heap.size := by simp
  go_enter Tryd.func3, Tryd.ntmps3
  go_upto_region 1 with (fail)
  generalize ((w.alloc (.cells #[.int .i64 k, .string nm, .int .i64 v0, .int .i64 v1, .string v2, .int .i64 lo, .int .i64 hi, .slice A7 l.length c7] 26)).alloc (.cells #[.int .i64 id, .slice A1 vs.length c1, .slice A2 fs.length c2] 30)) = w2 at *
  have k0 := cell_of_blk hV1 (j := 0) rfl
  have k1 := cell_of_blk hV1 (j := 1) rfl
  have k2 := cell_of_blk hV1 (j := 2) rfl
  have k3 := cell_of_blk hV1 (j := 3) rfl
  have k4 := cell_of_blk hV1 (j := 4) rfl
  have k5 := cell_of_blk hV1 (j := 5) rfl
  have k6 := cell_of_blk hV1 (j := 6) rfl
  have k7 := cell_of_blk hV1 (j := 7) rfl
  have q0 := cell_of_blk hV2 (j := 0) rfl
  have q1 := cell_of_blk hV2 (j := 1) rfl
  have q2 := cell_of_blk hV2 (j := 2) rfl
  have HT := Lib.hid (Kd.C_below hC hb0)
  have HF := Lib.hid (Kd.C_below hC2 hb0)
  have HB0 := Lib.hid hb0
  have Ht := Lib.hid ht
  have Hs1 := Lib.hid hs1
  have Hs2 := Lib.hid hs2
  have Hd1 := Lib.hid hd1
  have Hd2 := Lib.hid hd2
  have Hm := Lib.hid hm
  clear hb0 hC hC2 ht hs1 hs2 hd1 hd2 hm
  go_upto_region 2 with (go_at_call 7; refine (lodestarlaw16_Twin.calls kt k nm v0 v1 v2 lo hi A7 c7 l k nm v0 v1 v2 lo hi l _ HT.out hc7 Ht.out).mono ?_; rintro e w4 ⟨v7, rfl, hR, hB4⟩; obtain ⟨A9, c9, rfl, h9, hC9⟩ := Kd.R_reads hR; have HC9 := Lib.hid hC9; have HB4 := Lib.hid hB4; clear hR hC9 hB4)
  have hb5 : Below w2.heap.size w2 (w4.alloc (.cells #[.int .i64 k, .string nm, .int .i64 v0, .int .i64 v1, .string v2, .int .i64 lo, .int .i64 hi, .slice A9 l.length c9] 26)) := HB4.out.alloc HB4.out.size _
  have hb45 : Below w4.heap.size w4 (w4.alloc (.cells #[.int .i64 k, .string nm, .int .i64 v0, .int .i64 v1, .string v2, .int .i64 lo, .int .i64 hi, .slice A9 l.length c9] 26)) := (Below.refl _ _).alloc (Nat.le_refl _) _
  have hf5 := World.alloc_heap_new w4 (.cells #[.int .i64 k, .string nm, .int .i64 v0, .int .i64 v1, .string v2, .int .i64 lo, .int .i64 hi, .slice A9 l.length c9] 26)
  generalize w4.alloc (.cells #[.int .i64 k, .string nm, .int .i64 v0, .int .i64 v1, .string v2, .int .i64 lo, .int .i64 hi, .slice A9 l.length c9] 26) = w5 at *
  have hq1 := (hb5.block w.heap.size (by omega)).trans hV1
  have hq2 := (hb5.block (w.heap.size + 1) (by omega)).trans hV2
  have HB5 := Lib.hid (HB0.out.trans (hb5.mono (by omega)))
  have hz5 : w.heap.size ≤ w5.heap.size := HB5.out.size
  have HX := Lib.hid (Kd.C_below HT.out hb5)
  have HY := Lib.hid (Kd.C_below HC9.out hb45)
  have HZ := Lib.hid (Kd.C_below HF.out hb5)
  have KP : ∀ W', Below w5.heap.size w5 W' → Calls Tryd.prog 8 #[.agg #[.int .i64 k, .string nm, .int .i64 v0, .int .i64 v1, .string v2, .int .i64 lo, .int .i64 hi, .slice A9 l.length c9], .agg #[.int .i64 id, .slice A1 vs.length c1, .slice A2 fs.length c2]] W' fun e w' => e = .returned (.bool (passC fs (⟨k, nm, ⟨v0, v1, v2⟩, lo, hi, l⟩ : Cn))) ∧ Below W'.heap.size W' w' := fun W' h => passes_calls (⟨k, nm, ⟨v0, v1, v2⟩, lo, hi, l⟩ : Cn) A9 c9 id A1 c1 vs A2 c2 fs W' HS.out (Kd.C_below HY.out h) h9 (Kd.C_below HZ.out h) hc2 hfs
  have KRP : ∀ W', Below w5.heap.size w5 W' → Calls Tryd.prog 9 #[.agg #[.int .i64 k, .string nm, .int .i64 v0, .int .i64 v1, .string v2, .int .i64 lo, .int .i64 hi, .slice A7 l.length c7], .agg #[.int .i64 id, .slice A1 vs.length c1, .slice A2 fs.length c2]] W' fun e w' => e = .returned (.bool (passC fs (⟨k, nm, ⟨v0, v1, v2⟩, lo, hi, l⟩ : Cn))) ∧ Below W'.heap.size W' w' := fun W' h => refPasses_calls (⟨k, nm, ⟨v0, v1, v2⟩, lo, hi, l⟩ : Cn) A7 c7 id A1 c1 vs A2 c2 fs W' HS.out (Kd.C_below HX.out h) hc7 (Kd.C_below HZ.out h) hc2 hfs
  have KS : ∀ W', Below w5.heap.size w5 W' → Calls Tryd.prog 10 #[.agg #[.int .i64 k, .string nm, .int .i64 v0, .int .i64 v1, .string v2, .int .i64 lo, .int .i64 hi, .slice A9 l.length c9]] W' fun e w' => e = .returned (.int .i64 ts) ∧ Below W'.heap.size W' w' := fun W' h => filter_Size.calls ks k nm v0 v1 v2 lo hi A9 c9 l ts W' (Kd.C_below HY.out h) h9 Hs1.out
  have KRS : ∀ W', Below w5.heap.size w5 W' → Calls Tryd.prog 11 #[.agg #[.int .i64 k, .string nm, .int .i64 v0, .int .i64 v1, .string v2, .int .i64 lo, .int .i64 hi, .slice A7 l.length c7]] W' fun e w' => e = .returned (.int .i64 ts) ∧ Below W'.heap.size W' w' := fun W' h => lodestarref16_Size.calls ks k nm v0 v1 v2 lo hi A7 c7 l ts W' (Kd.C_below HX.out h) hc7 Hs2.out
  have KD : ∀ W', Below w5.heap.size w5 W' → Calls Tryd.prog 12 #[.agg #[.int .i64 k, .string nm, .int .i64 v0, .int .i64 v1, .string v2, .int .i64 lo, .int .i64 hi, .slice A9 l.length c9]] W' fun e w' => e = .returned (.int .i64 td) ∧ Below W'.heap.size W' w' := fun W' h => filter_Depth.calls kd k nm v0 v1 v2 lo hi A9 c9 l td W' (Kd.C_below HY.out h) h9 Hd1.out
  have KRD : ∀ W', Below w5.heap.size w5 W' → Calls Tryd.prog 13 #[.agg #[.int .i64 k, .string nm, .int .i64 v0, .int .i64 v1, .string v2, .int .i64 lo, .int .i64 hi, .slice A7 l.length c7]] W' fun e w' => e = .returned (.int .i64 td) ∧ Below W'.heap.size W' w' := fun W' h => lodestarref16_Depth.calls kd k nm v0 v1 v2 lo hi A7 c7 l td W' (Kd.C_below HX.out h) hc7 Hd2.out
  have KM : ∀ W', Below w5.heap.size w5 W' → Calls Tryd.prog 14 #[.agg #[.int .i64 k, .string nm, .int .i64 v0, .int .i64 v1, .string v2, .int .i64 lo, .int .i64 hi, .slice A9 l.length c9], .agg #[.int .i64 k, .string nm, .int .i64 v0, .int .i64 v1, .string v2, .int .i64 lo, .int .i64 hi, .slice A7 l.length c7]] W' fun e w' => e = .returned (.bool true) ∧ Below W'.heap.size W' w' := fun W' h => lodestarref16_Same.calls km k nm v0 v1 v2 lo hi A9 c9 l k nm v0 v1 v2 lo hi A7 c7 l true W' (Kd.C_below HY.out h) h9 (Kd.C_below HX.out h) hc7 Hm.out
  have HKP : Aside _ := KP
  have HKRP : Aside _ := KRP
  have HKS : Aside _ := KS
  have HKRS : Aside _ := KRS
  have HKD : Aside _ := KD
  have HKRD : Aside _ := KRD
  have HKM : Aside _ := KM
  have KS0 : w5.drew.cell? ⟨w.heap.size, 0, none⟩ = some (.int .i64 k) ∧ w5.drew.cell? ⟨w.heap.size, 1, none⟩ = some (.string nm) ∧ w5.drew.cell? ⟨w.heap.size, 2, none⟩ = some (.int .i64 v0) ∧ w5.drew.cell? ⟨w.heap.size, 3, none⟩ = some (.int .i64 v1) ∧ w5.drew.cell? ⟨w.heap.size, 4, none⟩ = some (.string v2) ∧ w5.drew.cell? ⟨w.heap.size, 5, none⟩ = some (.int .i64 lo) ∧ w5.drew.cell? ⟨w.heap.size, 6, none⟩ = some (.int .i64 hi) ∧ w5.drew.cell? ⟨w.heap.size, 7, none⟩ = some (.slice A7 l.length c7) ∧ w5.drew.cell? ⟨w.heap.size + 1, 0, none⟩ = some (.int .i64 id) ∧ w5.drew.cell? ⟨w.heap.size + 1, 1, none⟩ = some (.slice A1 vs.length c1) ∧ w5.drew.cell? ⟨w.heap.size + 1, 2, none⟩ = some (.slice A2 fs.length c2) ∧ w5.drew.cell? ⟨w4.heap.size, 0, none⟩ = some (.int .i64 k) ∧ w5.drew.cell? ⟨w4.heap.size, 1, none⟩ = some (.string nm) ∧ w5.drew.cell? ⟨w4.heap.size, 2, none⟩ = some (.int .i64 v0) ∧ w5.drew.cell? ⟨w4.heap.size, 3, none⟩ = some (.int .i64 v1) ∧ w5.drew.cell? ⟨w4.heap.size, 4, none⟩ = some (.string v2) ∧ w5.drew.cell? ⟨w4.heap.size, 5, none⟩ = some (.int .i64 lo) ∧ w5.drew.cell? ⟨w4.heap.size, 6, none⟩ = some (.int .i64 hi) ∧ w5.drew.cell? ⟨w4.heap.size, 7, none⟩ = some (.slice A9 l.length c9) ∧ Hid (Below w5.heap.size w5 w5.drew) := ⟨cell_of_blk (W := w5) hq1 (j := 0) rfl, cell_of_blk (W := w5) hq1 (j := 1) rfl, cell_of_blk (W := w5) hq1 (j := 2) rfl, cell_of_blk (W := w5) hq1 (j := 3) rfl, cell_of_blk (W := w5) hq1 (j := 4) rfl, cell_of_blk (W := w5) hq1 (j := 5) rfl, cell_of_blk (W := w5) hq1 (j := 6) rfl, cell_of_blk (W := w5) hq1 (j := 7) rfl, cell_of_blk (W := w5) hq2 (j := 0) rfl, cell_of_blk (W := w5) hq2 (j := 1) rfl, cell_of_blk (W := w5) hq2 (j := 2) rfl, cell_of_blk (W := w5) hf5 (j := 0) rfl, cell_of_blk (W := w5) hf5 (j := 1) rfl, cell_of_blk (W := w5) hf5 (j := 2) rfl, cell_of_blk (W := w5) hf5 (j := 3) rfl, cell_of_blk (W := w5) hf5 (j := 4) rfl, cell_of_blk (W := w5) hf5 (j := 5) rfl, cell_of_blk (W := w5) hf5 (j := 6) rfl, cell_of_blk (W := w5) hf5 (j := 7) rfl, Lib.hid ⟨rfl, rfl, rfl, Nat.le_refl _, fun _ _ => rfl⟩⟩
  have KS1 : ∀ W1 W2 : World, Below W1.heap.size W1 W2 → (W1.cell? ⟨w.heap.size, 0, none⟩ = some (.int .i64 k) ∧ W1.cell? ⟨w.heap.size, 1, none⟩ = some (.string nm) ∧ W1.cell? ⟨w.heap.size, 2, none⟩ = some (.int .i64 v0) ∧ W1.cell? ⟨w.heap.size, 3, none⟩ = some (.int .i64 v1) ∧ W1.cell? ⟨w.heap.size, 4, none⟩ = some (.string v2) ∧ W1.cell? ⟨w.heap.size, 5, none⟩ = some (.int .i64 lo) ∧ W1.cell? ⟨w.heap.size, 6, none⟩ = some (.int .i64 hi) ∧ W1.cell? ⟨w.heap.size, 7, none⟩ = some (.slice A7 l.length c7) ∧ W1.cell? ⟨w.heap.size + 1, 0, none⟩ = some (.int .i64 id) ∧ W1.cell? ⟨w.heap.size + 1, 1, none⟩ = some (.slice A1 vs.length c1) ∧ W1.cell? ⟨w.heap.size + 1, 2, none⟩ = some (.slice A2 fs.length c2) ∧ W1.cell? ⟨w4.heap.size, 0, none⟩ = some (.int .i64 k) ∧ W1.cell? ⟨w4.heap.size, 1, none⟩ = some (.string nm) ∧ W1.cell? ⟨w4.heap.size, 2, none⟩ = some (.int .i64 v0) ∧ W1.cell? ⟨w4.heap.size, 3, none⟩ = some (.int .i64 v1) ∧ W1.cell? ⟨w4.heap.size, 4, none⟩ = some (.string v2) ∧ W1.cell? ⟨w4.heap.size, 5, none⟩ = some (.int .i64 lo) ∧ W1.cell? ⟨w4.heap.size, 6, none⟩ = some (.int .i64 hi) ∧ W1.cell? ⟨w4.heap.size, 7, none⟩ = some (.slice A9 l.length c9) ∧ Hid (Below w5.heap.size w5 W1)) → (W2.cell? ⟨w.heap.size, 0, none⟩ = some (.int .i64 k) ∧ W2.cell? ⟨w.heap.size, 1, none⟩ = some (.string nm) ∧ W2.cell? ⟨w.heap.size, 2, none⟩ = some (.int .i64 v0) ∧ W2.cell? ⟨w.heap.size, 3, none⟩ = some (.int .i64 v1) ∧ W2.cell? ⟨w.heap.size, 4, none⟩ = some (.string v2) ∧ W2.cell? ⟨w.heap.size, 5, none⟩ = some (.int .i64 lo) ∧ W2.cell? ⟨w.heap.size, 6, none⟩ = some (.int .i64 hi) ∧ W2.cell? ⟨w.heap.size, 7, none⟩ = some (.slice A7 l.length c7) ∧ W2.cell? ⟨w.heap.size + 1, 0, none⟩ = some (.int .i64 id) ∧ W2.cell? ⟨w.heap.size + 1, 1, none⟩ = some (.slice A1 vs.length c1) ∧ W2.cell? ⟨w.heap.size + 1, 2, none⟩ = some (.slice A2 fs.length c2) ∧ W2.cell? ⟨w4.heap.size, 0, none⟩ = some (.int .i64 k) ∧ W2.cell? ⟨w4.heap.size, 1, none⟩ = some (.string nm) ∧ W2.cell? ⟨w4.heap.size, 2, none⟩ = some (.int .i64 v0) ∧ W2.cell? ⟨w4.heap.size, 3, none⟩ = some (.int .i64 v1) ∧ W2.cell? ⟨w4.heap.size, 4, none⟩ = some (.string v2) ∧ W2.cell? ⟨w4.heap.size, 5, none⟩ = some (.int .i64 lo) ∧ W2.cell? ⟨w4.heap.size, 6, none⟩ = some (.int .i64 hi) ∧ W2.cell? ⟨w4.heap.size, 7, none⟩ = some (.slice A9 l.length c9) ∧ Hid (Below w5.heap.size w5 W2)) := fun W1 W2 h ⟨s0, s1, s2, s3, s4, s5, s6, s7, s8, s9, s10, s11, s12, s13, s14, s15, s16, s17, s18, s19⟩ => ⟨pw_cell_below h s0, pw_cell_below h s1, pw_cell_below h s2, pw_cell_below h s3, pw_cell_below h s4, pw_cell_below h s5, pw_cell_below h s6, pw_cell_below h s7, pw_cell_below h s8, pw_cell_below h s9, pw_cell_below h s10, pw_cell_below h s11, pw_cell_below h s12, pw_cell_below h s13, pw_cell_below h s14, pw_cell_below h s15, pw_cell_below h s16, pw_cell_below h s17, pw_cell_below h s18, Lib.hid (s19.out.trans (h.mono s19.out.size))⟩
  have HKS0 : Aside _ := KS0
  have HKS1 : Aside _ := KS1
  clear KP KRP KS KRS KD KRD KM KS0 KS1 hb5 hb45 hf5 hq1 hq2 hV1 hV2 k0 k1 k2 k3 k4 k5 k6 k7 q0 q1 q2
  generalize passC fs (⟨k, nm, ⟨v0, v1, v2⟩, lo, hi, l⟩ : Cn) = z at *
  go_region_held (fun w' => w'.cell? ⟨w.heap.size, 0, none⟩ = some (.int .i64 k) ∧ w'.cell? ⟨w.heap.size, 1, none⟩ = some (.string nm) ∧ w'.cell? ⟨w.heap.size, 2, none⟩ = some (.int .i64 v0) ∧ w'.cell? ⟨w.heap.size, 3, none⟩ = some (.int .i64 v1) ∧ w'.cell? ⟨w.heap.size, 4, none⟩ = some (.string v2) ∧ w'.cell? ⟨w.heap.size, 5, none⟩ = some (.int .i64 lo) ∧ w'.cell? ⟨w.heap.size, 6, none⟩ = some (.int .i64 hi) ∧ w'.cell? ⟨w.heap.size, 7, none⟩ = some (.slice A7 l.length c7) ∧ w'.cell? ⟨w.heap.size + 1, 0, none⟩ = some (.int .i64 id) ∧ w'.cell? ⟨w.heap.size + 1, 1, none⟩ = some (.slice A1 vs.length c1) ∧ w'.cell? ⟨w.heap.size + 1, 2, none⟩ = some (.slice A2 fs.length c2) ∧ w'.cell? ⟨w4.heap.size, 0, none⟩ = some (.int .i64 k) ∧ w'.cell? ⟨w4.heap.size, 1, none⟩ = some (.string nm) ∧ w'.cell? ⟨w4.heap.size, 2, none⟩ = some (.int .i64 v0) ∧ w'.cell? ⟨w4.heap.size, 3, none⟩ = some (.int .i64 v1) ∧ w'.cell? ⟨w4.heap.size, 4, none⟩ = some (.string v2) ∧ w'.cell? ⟨w4.heap.size, 5, none⟩ = some (.int .i64 lo) ∧ w'.cell? ⟨w4.heap.size, 6, none⟩ = some (.int .i64 hi) ∧ w'.cell? ⟨w4.heap.size, 7, none⟩ = some (.slice A9 l.length c9) ∧ Hid (Below w5.heap.size w5 w')) (first | exact HKS0.out | assumption | (exact HKS1.out _ _ (by assumption) (by assumption))) (first
    | (go_at_call 8; with_reducible refine Calls.mono (HKP.out _ ?hb) ?_; (case hb => exact Hid.out (And.right (And.right (And.right (And.right (And.right (And.right (And.right (And.right (And.right (And.right (And.right (And.right (And.right (And.right (And.right (And.right (And.right (And.right (And.right (by assumption))))))))))))))))))))); rintro e w11 ⟨rfl, hB⟩)
    | (go_at_call 9; with_reducible refine Calls.mono (HKRP.out _ ?hb) ?_; (case hb => exact Hid.out (And.right (And.right (And.right (And.right (And.right (And.right (And.right (And.right (And.right (And.right (And.right (And.right (And.right (And.right (And.right (And.right (And.right (And.right (And.right (by assumption))))))))))))))))))))); rintro e w12 ⟨rfl, hB⟩)
    | (go_at_call 10; with_reducible refine Calls.mono (HKS.out _ ?hb) ?_; (case hb => exact Hid.out (And.right (And.right (And.right (And.right (And.right (And.right (And.right (And.right (And.right (And.right (And.right (And.right (And.right (And.right (And.right (And.right (And.right (And.right (And.right (by assumption))))))))))))))))))))); rintro e w13 ⟨rfl, hB⟩)
    | (go_at_call 11; with_reducible refine Calls.mono (HKRS.out _ ?hb) ?_; (case hb => exact Hid.out (And.right (And.right (And.right (And.right (And.right (And.right (And.right (And.right (And.right (And.right (And.right (And.right (And.right (And.right (And.right (And.right (And.right (And.right (And.right (by assumption))))))))))))))))))))); rintro e w14 ⟨rfl, hB⟩)
    | (go_at_call 12; with_reducible refine Calls.mono (HKD.out _ ?hb) ?_; (case hb => exact Hid.out (And.right (And.right (And.right (And.right (And.right (And.right (And.right (And.right (And.right (And.right (And.right (And.right (And.right (And.right (And.right (And.right (And.right (And.right (And.right (by assumption))))))))))))))))))))); rintro e w15 ⟨rfl, hB⟩)
    | (go_at_call 13; with_reducible refine Calls.mono (HKRD.out _ ?hb) ?_; (case hb => exact Hid.out (And.right (And.right (And.right (And.right (And.right (And.right (And.right (And.right (And.right (And.right (And.right (And.right (And.right (And.right (And.right (And.right (And.right (And.right (And.right (by assumption))))))))))))))))))))); rintro e w16 ⟨rfl, hB⟩)
    | (go_at_call 14; with_reducible refine Calls.mono (HKM.out _ ?hb) ?_; (case hb => exact Hid.out (And.right (And.right (And.right (And.right (And.right (And.right (And.right (And.right (And.right (And.right (And.right (And.right (And.right (And.right (And.right (And.right (And.right (And.right (And.right (by assumption))))))))))))))))))))); rintro e w17 ⟨rfl, hB⟩)
    | (go_at_call 15; refine Calls.mono (sure_calls _) ?_; rintro e w18 ⟨rfl, hB⟩))
  have hz : Hid (Below w5.heap.size w5 w18) := And.right (And.right (And.right (And.right (And.right (And.right (And.right (And.right (And.right (And.right (And.right (And.right (And.right (And.right (And.right (And.right (And.right (And.right (And.right (by assumption)))))))))))))))))))
  go_wp2_with fail
  go_ret
  exact ⟨rfl, HB5.out.trans (hz.out.mono hz5)⟩
end Go.Proofs.YthaofmbjkdikbaaDoor.F
namespace Go.Proofs.YthaofmbjkdikbaaDoor.H
open Go.RowKit Go.Lib Go.Proofs.YthaofmbjkdikbaaDoorW.PrintWords Go.Proofs.YthaofmbjkdikbaaDoor.PAll Go.Proofs.YthaofmbjkdikbaaDoor.V Go.Proofs.YthaofmbjkdikbaaDoor.R Go.Proofs.YthaofmbjkdikbaaDoor.F
theorem filterPasses_walk (cs : List Value) (c : Cn) (ps : List Value) (p : S30) (W : World) (hK : k26.K W c cs) (hs : Small c) (hP : k30.K W p ps) (hG : GPt p) :
    Calls Tryd.prog 3 #[.agg cs.toArray, .agg ps.toArray] W fun e W' => e = .returned (.bool true) ∧ Below W.heap.size W W' := by
  obtain ⟨A7, c7, rfl, h7, hC7⟩ := k26_open hK
  obtain ⟨A1, c1, A2, c2, rfl, h1, hC1, h2, hC2⟩ := k30_open hP
  obtain ⟨k, nm, ⟨v0, v1, v2⟩, lo, hi, l⟩ := c
  exact passes_law k nm v0 v1 v2 lo hi l hs A7 c7 p.f0 A1 c1 p.f1 A2 c2 p.f2 W hC7 h7 hC2 h2 hG.2.2.1
end Go.Proofs.YthaofmbjkdikbaaDoor.H

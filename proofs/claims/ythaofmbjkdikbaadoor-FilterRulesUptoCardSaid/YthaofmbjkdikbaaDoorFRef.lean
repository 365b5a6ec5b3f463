/- Filter: lodestarref05.Get, and lodestarref16.Passes, which answers as passC says (written by hp/genref.py). -/
import Derived.Test.YthaofmbjkdikbaaDoorFPw
import Derived.Test.YthaofmbjkdikbaaDoorPAllx4
namespace Go.Proofs.YthaofmbjkdikbaaDoor.F
open Go.RowKit Go.Lib Go.Sort Go.Shelf Go.Proofs.YthaofmbjkdikbaaDoorW.PrintWords Go.Proofs.YthaofmbjkdikbaaDoor.PAll Go.Proofs.YthaofmbjkdikbaaDoor.V
set_option linter.unusedVariables false
def gT : Option Va → Int × Int × ByteArray × Bool
  | some v => (v.f0, v.f1, v.f2, true)
  | none => (0, 0, ⟨#[]⟩, false)
theorem wr_next {n : Nat} (h : n ≤ 2097152) : wrap64 ((n : Int) + 1) = ((n + 1 : Nat) : Int) := by
  unfold wrap64; omega
theorem getV_cons (x : Fi) (fs : List Fi) (name : ByteArray) : getV (x :: fs) name = if x.f0.toList = name.toList then some x.f1 else getV fs name := by
  unfold getV
  rw [List.find?_cons]
  split
  · next h => rw [if_pos (by simpa using h)]; rfl
  · next h => rw [if_neg (by simpa using h)]
theorem get_ev (fs : List Fi) (name : ByteArray) (hn : fs.length ≤ 1048576) : ∀ (d j : Nat), j + d = fs.length → ∃ k, lodestarref05_Get.l0 k fs name j = some (gT (getV (fs.drop j) name))
  | 0, j, h => ⟨1, by
    have hj : j = fs.length := by omega
    subst hj
    rw [lodestarref05_Get.l0, if_neg (by omega), List.drop_length]; rfl⟩
  | d + 1, j, h => by
    obtain ⟨k, hk⟩ := get_ev fs name hn d (j + 1) (by omega)
    refine ⟨k + 1, ?_⟩
    have hj : j < fs.length := by omega
    have er : rd_T62 fs (j : Int) = fs[j] := by unfold rd_T62; simp [hj]
    rw [lodestarref05_Get.l0, if_pos (by omega), if_pos (by omega), er, wr_next (by omega), hk, List.drop_eq_getElem_cons hj]
    rw [getV_cons]
    by_cases hq : fs[j].f0.toList = name.toList
    · rw [if_pos hq, if_pos hq]; rfl
    · rw [if_neg hq, if_neg hq]
theorem refGet_calls (A : Option Addr) (c : Nat) (fs : List Fi) (name : ByteArray) (w : World) (hC : Kd.C k62 w A fs.length fs) (hc0 : fs.length ≤ c) (hn : fs.length ≤ 1048576) :
    Calls Tryd.prog 28 #[.slice A fs.length c, .string name] w (GOut w (getV fs name)) := by
  obtain ⟨k, hk⟩ := get_ev fs name hn fs.length 0 (by omega)
  rw [List.drop_zero] at hk
  have hf : lodestarref05_Get.f k fs name = some (gT (getV fs name)) := hk
  rcases hg : getV fs name with _ | v
  · rw [hg] at hf
    exact (lodestarref05_Get.calls k A c fs name _ _ _ _ w hC hc0 hf).mono (by rintro e w' ⟨rfl, hB⟩; exact ⟨rfl, hB⟩)
  · rw [hg] at hf
    exact (lodestarref05_Get.calls k A c fs name _ _ _ _ w hC hc0 hf).mono (by rintro e w' ⟨rfl, hB⟩; exact ⟨rfl, hB⟩)
theorem vOf_any (ov : Option Va) : ∃ (g : Va) (b : Bool), vOf ov = .tuple #[.agg #[.int .i64 g.f0, .int .i64 g.f1, .string g.f2], .bool b] ∧ ov.isSome = b ∧ (b = true → ov = some g) ∧ (b = false → ov = none) := by
  cases ov with
  | none => exact ⟨⟨0, 0, ⟨#[]⟩⟩, false, rfl, rfl, by simp, by simp⟩
  | some v => exact ⟨v, true, rfl, rfl, by simp, by simp⟩
/-- The document's Passes, called by itself. -/
def Calls9 (fs : List Fi) (x : Cn) : Prop := ∀ (A7 : Option Addr) (c7 : Nat) (id : Int) (A1 : Option Addr) (n1 c1 : Nat) (A2 : Option Addr) (c2 : Nat) (w : World), Kd.C k26 w A7 x.f5.length x.f5 → Kd.C k62 w A2 fs.length fs → fs.length ≤ c2 →
    Calls Tryd.prog 9 #[.agg #[.int .i64 x.f0, .string x.f1, .int .i64 x.f2.f0, .int .i64 x.f2.f1, .string x.f2.f2, .int .i64 x.f3, .int .i64 x.f4, .slice A7 x.f5.length c7], .agg #[.int .i64 id, .slice A1 n1 c1, .slice A2 fs.length c2]] w fun e w' => e = .returned (.bool (passC fs x)) ∧ Below w.heap.size w w'
set_option maxRecDepth 100000 in
set_option maxHeartbeats 1000000 in
theorem rpass1 (fs : List Fi) (hbf : fs.length ≤ 1048576) (nm : ByteArray) (v0 v1 : Int) (v2 : ByteArray) (lo hi : Int) (l : List Cn) (hlen : l.length ≤ 1048576) : Calls9 fs (⟨1, nm, ⟨v0, v1, v2⟩, lo, hi, l⟩ : Cn) := by
  intro A7 c7 id A1 n1 c1 A2 c2 w hr hr2 hc2
  dsimp only at hr hr2 hc2 ⊢
  have HP : Hid (passC fs (⟨1, nm, ⟨v0, v1, v2⟩, lo, hi, l⟩ : Cn) = true) := Lib.hid (by rw [passC]; simp)
  rw [HP.out]
  have hV1 : ((w.alloc (.cells #[.int .i64 1, .string nm, .int .i64 v0, .int .i64 v1, .string v2, .int .i64 lo, .int .i64 hi, .slice A7 l.length c7] 26)).alloc (.cells #[.int .i64 id, .slice A1 n1 c1, .slice A2 fs.length c2] 30)).heap[w.heap.size]? = some (.cells #[.int .i64 1, .string nm, .int .i64 v0, .int .i64 v1, .string v2, .int .i64 lo, .int .i64 hi, .slice A7 l.length c7] 26 (0, 0)) := (Below.heap_alloc _ _ _ (by simp)).trans (World.alloc_heap_new w _)
  have hV2 : ((w.alloc (.cells #[.int .i64 1, .string nm, .int .i64 v0, .int .i64 v1, .string v2, .int .i64 lo, .int .i64 hi, .slice A7 l.length c7] 26)).alloc (.cells #[.int .i64 id, .slice A1 n1 c1, .slice A2 fs.length c2] 30)).heap[w.heap.size + 1]? = some (.cells #[.int .i64 id, .slice A1 n1 c1, .slice A2 fs.length c2] 30 (0, 0)) := by have h := World.alloc_heap_new (w.alloc (.cells #[.int .i64 1, .string nm, .int .i64 v0, .int .i64 v1, .string v2, .int .i64 lo, .int .i64 hi, .slice A7 l.length c7] 26)) (.cells #[.int .i64 id, .slice A1 n1 c1, .slice A2 fs.length c2] 30); rwa [World.size_alloc] at h
  have hb0 : Below w.heap.size w ((w.alloc (.cells #[.int .i64 1, .string nm, .int .i64 v0, .int .i64 v1, .string v2, .int .i64 lo, .int .i64 hi, .slice A7 l.length c7] 26)).alloc (.cells #[.int .i64 id, .slice A1 n1 c1, .slice A2 fs.length c2] 30)) := ((Below.refl _ w).alloc (Nat.le_refl _) _).alloc (by simp) _
  have hz2 : w.heap.size + 2 ≤ ((w.alloc (.cells #[.int .i64 1, .string nm, .int .i64 v0, .int .i64 v1, .string v2, .int .i64 lo, .int .i64 hi, .slice A7 l.length c7] 26)).alloc (.cells #[.int .i64 id, .slice A1 n1 c1, .slice A2 fs.length c2] 30)).heap.size := by simp
  obtain ⟨g, b, hgv, hgb, hgs, hgn⟩ := vOf_any (getV fs nm)
  have HGV := Lib.hid hgv
  have HGB := Lib.hid hgb
  have HGS := Lib.hid hgs
  have HGN := Lib.hid hgn
  clear hgv hgb hgs hgn
  go_enter Tryd.func9, Tryd.ntmps9
  go_upto_region 1 with (fail)
  generalize ((w.alloc (.cells #[.int .i64 1, .string nm, .int .i64 v0, .int .i64 v1, .string v2, .int .i64 lo, .int .i64 hi, .slice A7 l.length c7] 26)).alloc (.cells #[.int .i64 id, .slice A1 n1 c1, .slice A2 fs.length c2] 30)) = w2 at *
  have k1 := cell_of_blk hV1 (j := 1) rfl
  have q2 := cell_of_blk hV2 (j := 2) rfl
  have HR := Lib.hid (Kd.C_below hr hb0)
  have HR2 := Lib.hid (Kd.C_below hr2 hb0)
  have HB0 := Lib.hid hb0
  clear hb0 hr hr2
  go_upto_region 2 with (go_at_call 28; refine (refGet_calls A2 c2 fs nm _ HR2.out hc2 hbf).mono ?_; rintro e w4 ⟨rfl, hB4⟩; rw [HGV.out])
  have hb5 : Below w2.heap.size w2 (w4.alloc (.cells #[.int .i64 g.f0, .int .i64 g.f1, .string g.f2] 23)) := hB4.alloc hB4.size _
  have hf5 := World.alloc_heap_new w4 (.cells #[.int .i64 g.f0, .int .i64 g.f1, .string g.f2] 23)
  generalize w4.alloc (.cells #[.int .i64 g.f0, .int .i64 g.f1, .string g.f2] 23) = w5 at *
  have hq1 := (hb5.block w.heap.size (by omega)).trans hV1
  have hq2 := (hb5.block (w.heap.size + 1) (by omega)).trans hV2
  have k0 := cell_of_blk hq1 (j := 0) rfl
  replace k1 := cell_of_blk hq1 (j := 1) rfl
  have k2 := cell_of_blk hq1 (j := 2) rfl
  have k3 := cell_of_blk hq1 (j := 3) rfl
  have k4 := cell_of_blk hq1 (j := 4) rfl
  have k5 := cell_of_blk hq1 (j := 5) rfl
  have k6 := cell_of_blk hq1 (j := 6) rfl
  have k7 := cell_of_blk hq1 (j := 7) rfl
  have q0 := cell_of_blk hq2 (j := 0) rfl
  have q1 := cell_of_blk hq2 (j := 1) rfl
  replace q2 := cell_of_blk hq2 (j := 2) rfl
  have g0 := cell_of_blk hf5 (j := 0) rfl
  have g1 := cell_of_blk hf5 (j := 1) rfl
  have g2 := cell_of_blk hf5 (j := 2) rfl
  have HRa := Lib.hid (Kd.C_below HR.out hb5)
  have HRb := Lib.hid (Kd.C_below HR2.out hb5)
  have HB5 := Lib.hid (HB0.out.trans (hb5.mono (by omega)))
  have hz5 : w.heap.size ≤ w5.heap.size := Nat.le_trans (by omega) hb5.size
  clear hV1 hV2 hB4 hb5 hf5 HR HR2 HB0 hz2 hq1 hq2
  go_wp2_with fail
  go_ret
  exact ⟨rfl, HB5.out⟩
set_option maxRecDepth 100000 in
set_option maxHeartbeats 1000000 in
theorem rpass2 (fs : List Fi) (hbf : fs.length ≤ 1048576) (nm : ByteArray) (v0 v1 : Int) (v2 : ByteArray) (lo hi : Int) (l : List Cn) (hlen : l.length ≤ 1048576) : Calls9 fs (⟨2, nm, ⟨v0, v1, v2⟩, lo, hi, l⟩ : Cn) := by
  intro A7 c7 id A1 n1 c1 A2 c2 w hr hr2 hc2
  dsimp only at hr hr2 hc2 ⊢
  have HP : Hid (passC fs (⟨2, nm, ⟨v0, v1, v2⟩, lo, hi, l⟩ : Cn) = false) := Lib.hid (by rw [passC]; simp)
  rw [HP.out]
  have hV1 : ((w.alloc (.cells #[.int .i64 2, .string nm, .int .i64 v0, .int .i64 v1, .string v2, .int .i64 lo, .int .i64 hi, .slice A7 l.length c7] 26)).alloc (.cells #[.int .i64 id, .slice A1 n1 c1, .slice A2 fs.length c2] 30)).heap[w.heap.size]? = some (.cells #[.int .i64 2, .string nm, .int .i64 v0, .int .i64 v1, .string v2, .int .i64 lo, .int .i64 hi, .slice A7 l.length c7] 26 (0, 0)) := (Below.heap_alloc _ _ _ (by simp)).trans (World.alloc_heap_new w _)
  have hV2 : ((w.alloc (.cells #[.int .i64 2, .string nm, .int .i64 v0, .int .i64 v1, .string v2, .int .i64 lo, .int .i64 hi, .slice A7 l.length c7] 26)).alloc (.cells #[.int .i64 id, .slice A1 n1 c1, .slice A2 fs.length c2] 30)).heap[w.heap.size + 1]? = some (.cells #[.int .i64 id, .slice A1 n1 c1, .slice A2 fs.length c2] 30 (0, 0)) := by have h := World.alloc_heap_new (w.alloc (.cells #[.int .i64 2, .string nm, .int .i64 v0, .int .i64 v1, .string v2, .int .i64 lo, .int .i64 hi, .slice A7 l.length c7] 26)) (.cells #[.int .i64 id, .slice A1 n1 c1, .slice A2 fs.length c2] 30); rwa [World.size_alloc] at h
  have hb0 : Below w.heap.size w ((w.alloc (.cells #[.int .i64 2, .string nm, .int .i64 v0, .int .i64 v1, .string v2, .int .i64 lo, .int .i64 hi, .slice A7 l.length c7] 26)).alloc (.cells #[.int .i64 id, .slice A1 n1 c1, .slice A2 fs.length c2] 30)) := ((Below.refl _ w).alloc (Nat.le_refl _) _).alloc (by simp) _
  have hz2 : w.heap.size + 2 ≤ ((w.alloc (.cells #[.int .i64 2, .string nm, .int .i64 v0, .int .i64 v1, .string v2, .int .i64 lo, .int .i64 hi, .slice A7 l.length c7] 26)).alloc (.cells #[.int .i64 id, .slice A1 n1 c1, .slice A2 fs.length c2] 30)).heap.size := by simp
  obtain ⟨g, b, hgv, hgb, hgs, hgn⟩ := vOf_any (getV fs nm)
  have HGV := Lib.hid hgv
  have HGB := Lib.hid hgb
  have HGS := Lib.hid hgs
  have HGN := Lib.hid hgn
  clear hgv hgb hgs hgn
  go_enter Tryd.func9, Tryd.ntmps9
  go_upto_region 1 with (fail)
  generalize ((w.alloc (.cells #[.int .i64 2, .string nm, .int .i64 v0, .int .i64 v1, .string v2, .int .i64 lo, .int .i64 hi, .slice A7 l.length c7] 26)).alloc (.cells #[.int .i64 id, .slice A1 n1 c1, .slice A2 fs.length c2] 30)) = w2 at *
  have k1 := cell_of_blk hV1 (j := 1) rfl
  have q2 := cell_of_blk hV2 (j := 2) rfl
  have HR := Lib.hid (Kd.C_below hr hb0)
  have HR2 := Lib.hid (Kd.C_below hr2 hb0)
  have HB0 := Lib.hid hb0
  clear hb0 hr hr2
  go_upto_region 2 with (go_at_call 28; refine (refGet_calls A2 c2 fs nm _ HR2.out hc2 hbf).mono ?_; rintro e w4 ⟨rfl, hB4⟩; rw [HGV.out])
  have hb5 : Below w2.heap.size w2 (w4.alloc (.cells #[.int .i64 g.f0, .int .i64 g.f1, .string g.f2] 23)) := hB4.alloc hB4.size _
  have hf5 := World.alloc_heap_new w4 (.cells #[.int .i64 g.f0, .int .i64 g.f1, .string g.f2] 23)
  generalize w4.alloc (.cells #[.int .i64 g.f0, .int .i64 g.f1, .string g.f2] 23) = w5 at *
  have hq1 := (hb5.block w.heap.size (by omega)).trans hV1
  have hq2 := (hb5.block (w.heap.size + 1) (by omega)).trans hV2
  have k0 := cell_of_blk hq1 (j := 0) rfl
  replace k1 := cell_of_blk hq1 (j := 1) rfl
  have k2 := cell_of_blk hq1 (j := 2) rfl
  have k3 := cell_of_blk hq1 (j := 3) rfl
  have k4 := cell_of_blk hq1 (j := 4) rfl
  have k5 := cell_of_blk hq1 (j := 5) rfl
  have k6 := cell_of_blk hq1 (j := 6) rfl
  have k7 := cell_of_blk hq1 (j := 7) rfl
  have q0 := cell_of_blk hq2 (j := 0) rfl
  have q1 := cell_of_blk hq2 (j := 1) rfl
  replace q2 := cell_of_blk hq2 (j := 2) rfl
  have g0 := cell_of_blk hf5 (j := 0) rfl
  have g1 := cell_of_blk hf5 (j := 1) rfl
  have g2 := cell_of_blk hf5 (j := 2) rfl
  have HRa := Lib.hid (Kd.C_below HR.out hb5)
  have HRb := Lib.hid (Kd.C_below HR2.out hb5)
  have HB5 := Lib.hid (HB0.out.trans (hb5.mono (by omega)))
  have hz5 : w.heap.size ≤ w5.heap.size := Nat.le_trans (by omega) hb5.size
  clear hV1 hV2 hB4 hb5 hf5 HR HR2 HB0 hz2 hq1 hq2
  go_wp2_with fail
  go_ret
  exact ⟨rfl, HB5.out⟩
set_option maxRecDepth 100000 in
set_option maxHeartbeats 1000000 in
theorem rpass9 (fs : List Fi) (hbf : fs.length ≤ 1048576) (k : Int) (nm : ByteArray) (v0 v1 : Int) (v2 : ByteArray) (lo hi : Int) (l : List Cn) (hlen : l.length ≤ 1048576) (h1 : k ≠ 1) (h2 : k ≠ 2) (h3 : k ≠ 3) (h4 : k ≠ 4) (h5 : k ≠ 5) (h6 : k ≠ 6) (h7 : k ≠ 7) (h8 : k ≠ 8) : Calls9 fs (⟨k, nm, ⟨v0, v1, v2⟩, lo, hi, l⟩ : Cn) := by
  intro A7 c7 id A1 n1 c1 A2 c2 w hr hr2 hc2
  dsimp only at hr hr2 hc2 ⊢
  have HP : Hid (passC fs (⟨k, nm, ⟨v0, v1, v2⟩, lo, hi, l⟩ : Cn) = false) := Lib.hid (by rw [passC]; simp [h1, h2, h3, h4, h5, h6, h7, h8])
  rw [HP.out]
  have hV1 : ((w.alloc (.cells #[.int .i64 k, .string nm, .int .i64 v0, .int .i64 v1, .string v2, .int .i64 lo, .int .i64 hi, .slice A7 l.length c7] 26)).alloc (.cells #[.int .i64 id, .slice A1 n1 c1, .slice A2 fs.length c2] 30)).heap[w.heap.size]? = some (.cells #[.int .i64 k, .string nm, .int .i64 v0, .int .i64 v1, .string v2, .int .i64 lo, .int .i64 hi, .slice A7 l.length c7] 26 (0, 0)) := (Below.heap_alloc _ _ _ (by simp)).trans (World.alloc_heap_new w _)
  have hV2 : ((w.alloc (.cells #[.int .i64 k, .string nm, .int .i64 v0, .int .i64 v1, .string v2, .int .i64 lo, .int .i64 hi, .slice A7 l.length c7] 26)).alloc (.cells #[.int .i64 id, .slice A1 n1 c1, .slice A2 fs.length c2] 30)).heap[w.heap.size + 1]? = some (.cells #[.int .i64 id, .slice A1 n1 c1, .slice A2 fs.length c2] 30 (0, 0)) := by have h := World.alloc_heap_new (w.alloc (.cells #[.int .i64 k, .string nm, .int .i64 v0, .int .i64 v1, .string v2, .int .i64 lo, .int .i64 hi, .slice A7 l.length c7] 26)) (.cells #[.int .i64 id, .slice A1 n1 c1, .slice A2 fs.length c2] 30); rwa [World.size_alloc] at h
  have hb0 : Below w.heap.size w ((w.alloc (.cells #[.int .i64 k, .string nm, .int .i64 v0, .int .i64 v1, .string v2, .int .i64 lo, .int .i64 hi, .slice A7 l.length c7] 26)).alloc (.cells #[.int .i64 id, .slice A1 n1 c1, .slice A2 fs.length c2] 30)) := ((Below.refl _ w).alloc (Nat.le_refl _) _).alloc (by simp) _
  have hz2 : w.heap.size + 2 ≤ ((w.alloc (.cells #[.int .i64 k, .string nm, .int .i64 v0, .int .i64 v1, .string v2, .int .i64 lo, .int .i64 hi, .slice A7 l.length c7] 26)).alloc (.cells #[.int .i64 id, .slice A1 n1 c1, .slice A2 fs.length c2] 30)).heap.size := by simp
  obtain ⟨g, b, hgv, hgb, hgs, hgn⟩ := vOf_any (getV fs nm)
  have HGV := Lib.hid hgv
  have HGB := Lib.hid hgb
  have HGS := Lib.hid hgs
  have HGN := Lib.hid hgn
  clear hgv hgb hgs hgn
  go_enter Tryd.func9, Tryd.ntmps9
  go_upto_region 1 with (fail)
  generalize ((w.alloc (.cells #[.int .i64 k, .string nm, .int .i64 v0, .int .i64 v1, .string v2, .int .i64 lo, .int .i64 hi, .slice A7 l.length c7] 26)).alloc (.cells #[.int .i64 id, .slice A1 n1 c1, .slice A2 fs.length c2] 30)) = w2 at *
  have k1 := cell_of_blk hV1 (j := 1) rfl
  have q2 := cell_of_blk hV2 (j := 2) rfl
  have HR := Lib.hid (Kd.C_below hr hb0)
  have HR2 := Lib.hid (Kd.C_below hr2 hb0)
  have HB0 := Lib.hid hb0
  clear hb0 hr hr2
  go_upto_region 2 with (go_at_call 28; refine (refGet_calls A2 c2 fs nm _ HR2.out hc2 hbf).mono ?_; rintro e w4 ⟨rfl, hB4⟩; rw [HGV.out])
  have hb5 : Below w2.heap.size w2 (w4.alloc (.cells #[.int .i64 g.f0, .int .i64 g.f1, .string g.f2] 23)) := hB4.alloc hB4.size _
  have hf5 := World.alloc_heap_new w4 (.cells #[.int .i64 g.f0, .int .i64 g.f1, .string g.f2] 23)
  generalize w4.alloc (.cells #[.int .i64 g.f0, .int .i64 g.f1, .string g.f2] 23) = w5 at *
  have hq1 := (hb5.block w.heap.size (by omega)).trans hV1
  have hq2 := (hb5.block (w.heap.size + 1) (by omega)).trans hV2
  have k0 := cell_of_blk hq1 (j := 0) rfl
  replace k1 := cell_of_blk hq1 (j := 1) rfl
  have k2 := cell_of_blk hq1 (j := 2) rfl
  have k3 := cell_of_blk hq1 (j := 3) rfl
  have k4 := cell_of_blk hq1 (j := 4) rfl
  have k5 := cell_of_blk hq1 (j := 5) rfl
  have k6 := cell_of_blk hq1 (j := 6) rfl
  have k7 := cell_of_blk hq1 (j := 7) rfl
  have q0 := cell_of_blk hq2 (j := 0) rfl
  have q1 := cell_of_blk hq2 (j := 1) rfl
  replace q2 := cell_of_blk hq2 (j := 2) rfl
  have g0 := cell_of_blk hf5 (j := 0) rfl
  have g1 := cell_of_blk hf5 (j := 1) rfl
  have g2 := cell_of_blk hf5 (j := 2) rfl
  have HRa := Lib.hid (Kd.C_below HR.out hb5)
  have HRb := Lib.hid (Kd.C_below HR2.out hb5)
  have HB5 := Lib.hid (HB0.out.trans (hb5.mono (by omega)))
  have hz5 : w.heap.size ≤ w5.heap.size := Nat.le_trans (by omega) hb5.size
  clear hV1 hV2 hB4 hb5 hf5 HR HR2 HB0 hz2 hq1 hq2
  have t1 : (k == 1) = false := by simp [h1]
  have t2 : (k == 2) = false := by simp [h2]
  have t3 : (k == 3) = false := by simp [h3]
  have t4 : (k == 4) = false := by simp [h4]
  have t5 : (k == 5) = false := by simp [h5]
  have t6 : (k == 6) = false := by simp [h6]
  have t7 : (k == 7) = false := by simp [h7]
  have t8 : (k == 8) = false := by simp [h8]
  clear h1 h2 h3 h4 h5 h6 h7 h8
  go_wp2_with fail
  go_ret
  exact ⟨rfl, HB5.out⟩
set_option maxRecDepth 100000 in
set_option maxHeartbeats 1000000 in
theorem rpass3 (fs : List Fi) (hbf : fs.length ≤ 1048576) (nm : ByteArray) (v0 v1 : Int) (v2 : ByteArray) (lo hi : Int) (l : List Cn) (hlen : l.length ≤ 1048576) : Calls9 fs (⟨3, nm, ⟨v0, v1, v2⟩, lo, hi, l⟩ : Cn) := by
  intro A7 c7 id A1 n1 c1 A2 c2 w hr hr2 hc2
  dsimp only at hr hr2 hc2 ⊢
  have HP : Hid (passC fs (⟨3, nm, ⟨v0, v1, v2⟩, lo, hi, l⟩ : Cn) = (getV fs nm).isSome) := Lib.hid (by rw [passC]; simp)
  rw [HP.out]
  have hV1 : ((w.alloc (.cells #[.int .i64 3, .string nm, .int .i64 v0, .int .i64 v1, .string v2, .int .i64 lo, .int .i64 hi, .slice A7 l.length c7] 26)).alloc (.cells #[.int .i64 id, .slice A1 n1 c1, .slice A2 fs.length c2] 30)).heap[w.heap.size]? = some (.cells #[.int .i64 3, .string nm, .int .i64 v0, .int .i64 v1, .string v2, .int .i64 lo, .int .i64 hi, .slice A7 l.length c7] 26 (0, 0)) := (Below.heap_alloc _ _ _ (by simp)).trans (World.alloc_heap_new w _)
  have hV2 : ((w.alloc (.cells #[.int .i64 3, .string nm, .int .i64 v0, .int .i64 v1, .string v2, .int .i64 lo, .int .i64 hi, .slice A7 l.length c7] 26)).alloc (.cells #[.int .i64 id, .slice A1 n1 c1, .slice A2 fs.length c2] 30)).heap[w.heap.size + 1]? = some (.cells #[.int .i64 id, .slice A1 n1 c1, .slice A2 fs.length c2] 30 (0, 0)) := by have h := World.alloc_heap_new (w.alloc (.cells #[.int .i64 3, .string nm, .int .i64 v0, .int .i64 v1, .string v2, .int .i64 lo, .int .i64 hi, .slice A7 l.length c7] 26)) (.cells #[.int .i64 id, .slice A1 n1 c1, .slice A2 fs.length c2] 30); rwa [World.size_alloc] at h
  have hb0 : Below w.heap.size w ((w.alloc (.cells #[.int .i64 3, .string nm, .int .i64 v0, .int .i64 v1, .string v2, .int .i64 lo, .int .i64 hi, .slice A7 l.length c7] 26)).alloc (.cells #[.int .i64 id, .slice A1 n1 c1, .slice A2 fs.length c2] 30)) := ((Below.refl _ w).alloc (Nat.le_refl _) _).alloc (by simp) _
  have hz2 : w.heap.size + 2 ≤ ((w.alloc (.cells #[.int .i64 3, .string nm, .int .i64 v0, .int .i64 v1, .string v2, .int .i64 lo, .int .i64 hi, .slice A7 l.length c7] 26)).alloc (.cells #[.int .i64 id, .slice A1 n1 c1, .slice A2 fs.length c2] 30)).heap.size := by simp
  obtain ⟨g, b, hgv, hgb, hgs, hgn⟩ := vOf_any (getV fs nm)
  have HGV := Lib.hid hgv
  have HGB := Lib.hid hgb
  have HGS := Lib.hid hgs
  have HGN := Lib.hid hgn
  clear hgv hgb hgs hgn
  go_enter Tryd.func9, Tryd.ntmps9
  go_upto_region 1 with (fail)
  generalize ((w.alloc (.cells #[.int .i64 3, .string nm, .int .i64 v0, .int .i64 v1, .string v2, .int .i64 lo, .int .i64 hi, .slice A7 l.length c7] 26)).alloc (.cells #[.int .i64 id, .slice A1 n1 c1, .slice A2 fs.length c2] 30)) = w2 at *
  have k1 := cell_of_blk hV1 (j := 1) rfl
  have q2 := cell_of_blk hV2 (j := 2) rfl
  have HR := Lib.hid (Kd.C_below hr hb0)
  have HR2 := Lib.hid (Kd.C_below hr2 hb0)
  have HB0 := Lib.hid hb0
  clear hb0 hr hr2
  go_upto_region 2 with (go_at_call 28; refine (refGet_calls A2 c2 fs nm _ HR2.out hc2 hbf).mono ?_; rintro e w4 ⟨rfl, hB4⟩; rw [HGV.out])
  have hb5 : Below w2.heap.size w2 (w4.alloc (.cells #[.int .i64 g.f0, .int .i64 g.f1, .string g.f2] 23)) := hB4.alloc hB4.size _
  have hf5 := World.alloc_heap_new w4 (.cells #[.int .i64 g.f0, .int .i64 g.f1, .string g.f2] 23)
  generalize w4.alloc (.cells #[.int .i64 g.f0, .int .i64 g.f1, .string g.f2] 23) = w5 at *
  have hq1 := (hb5.block w.heap.size (by omega)).trans hV1
  have hq2 := (hb5.block (w.heap.size + 1) (by omega)).trans hV2
  have k0 := cell_of_blk hq1 (j := 0) rfl
  replace k1 := cell_of_blk hq1 (j := 1) rfl
  have k2 := cell_of_blk hq1 (j := 2) rfl
  have k3 := cell_of_blk hq1 (j := 3) rfl
  have k4 := cell_of_blk hq1 (j := 4) rfl
  have k5 := cell_of_blk hq1 (j := 5) rfl
  have k6 := cell_of_blk hq1 (j := 6) rfl
  have k7 := cell_of_blk hq1 (j := 7) rfl
  have q0 := cell_of_blk hq2 (j := 0) rfl
  have q1 := cell_of_blk hq2 (j := 1) rfl
  replace q2 := cell_of_blk hq2 (j := 2) rfl
  have g0 := cell_of_blk hf5 (j := 0) rfl
  have g1 := cell_of_blk hf5 (j := 1) rfl
  have g2 := cell_of_blk hf5 (j := 2) rfl
  have HRa := Lib.hid (Kd.C_below HR.out hb5)
  have HRb := Lib.hid (Kd.C_below HR2.out hb5)
  have HB5 := Lib.hid (HB0.out.trans (hb5.mono (by omega)))
  have hz5 : w.heap.size ≤ w5.heap.size := Nat.le_trans (by omega) hb5.size
  clear hV1 hV2 hB4 hb5 hf5 HR HR2 HB0 hz2 hq1 hq2
  go_wp2_with fail
  go_ret
  exact ⟨by rw [HGB.out]; rfl, HB5.out⟩
set_option maxRecDepth 100000 in
set_option maxHeartbeats 1000000 in
theorem rpass4 (fs : List Fi) (hbf : fs.length ≤ 1048576) (nm : ByteArray) (v0 v1 : Int) (v2 : ByteArray) (lo hi : Int) (l : List Cn) (hlen : l.length ≤ 1048576) : Calls9 fs (⟨4, nm, ⟨v0, v1, v2⟩, lo, hi, l⟩ : Cn) := by
  intro A7 c7 id A1 n1 c1 A2 c2 w hr hr2 hc2
  dsimp only at hr hr2 hc2 ⊢
  have HP : Hid (passC fs (⟨4, nm, ⟨v0, v1, v2⟩, lo, hi, l⟩ : Cn) = isC (getV fs nm) ⟨v0, v1, v2⟩) := Lib.hid (by rw [passC]; simp)
  rw [HP.out]
  have hV1 : ((w.alloc (.cells #[.int .i64 4, .string nm, .int .i64 v0, .int .i64 v1, .string v2, .int .i64 lo, .int .i64 hi, .slice A7 l.length c7] 26)).alloc (.cells #[.int .i64 id, .slice A1 n1 c1, .slice A2 fs.length c2] 30)).heap[w.heap.size]? = some (.cells #[.int .i64 4, .string nm, .int .i64 v0, .int .i64 v1, .string v2, .int .i64 lo, .int .i64 hi, .slice A7 l.length c7] 26 (0, 0)) := (Below.heap_alloc _ _ _ (by simp)).trans (World.alloc_heap_new w _)
  have hV2 : ((w.alloc (.cells #[.int .i64 4, .string nm, .int .i64 v0, .int .i64 v1, .string v2, .int .i64 lo, .int .i64 hi, .slice A7 l.length c7] 26)).alloc (.cells #[.int .i64 id, .slice A1 n1 c1, .slice A2 fs.length c2] 30)).heap[w.heap.size + 1]? = some (.cells #[.int .i64 id, .slice A1 n1 c1, .slice A2 fs.length c2] 30 (0, 0)) := by have h := World.alloc_heap_new (w.alloc (.cells #[.int .i64 4, .string nm, .int .i64 v0, .int .i64 v1, .string v2, .int .i64 lo, .int .i64 hi, .slice A7 l.length c7] 26)) (.cells #[.int .i64 id, .slice A1 n1 c1, .slice A2 fs.length c2] 30); rwa [World.size_alloc] at h
  have hb0 : Below w.heap.size w ((w.alloc (.cells #[.int .i64 4, .string nm, .int .i64 v0, .int .i64 v1, .string v2, .int .i64 lo, .int .i64 hi, .slice A7 l.length c7] 26)).alloc (.cells #[.int .i64 id, .slice A1 n1 c1, .slice A2 fs.length c2] 30)) := ((Below.refl _ w).alloc (Nat.le_refl _) _).alloc (by simp) _
  have hz2 : w.heap.size + 2 ≤ ((w.alloc (.cells #[.int .i64 4, .string nm, .int .i64 v0, .int .i64 v1, .string v2, .int .i64 lo, .int .i64 hi, .slice A7 l.length c7] 26)).alloc (.cells #[.int .i64 id, .slice A1 n1 c1, .slice A2 fs.length c2] 30)).heap.size := by simp
  obtain ⟨g, b, hgv, hgb, hgs, hgn⟩ := vOf_any (getV fs nm)
  have HGV := Lib.hid hgv
  have HGB := Lib.hid hgb
  have HGS := Lib.hid hgs
  have HGN := Lib.hid hgn
  clear hgv hgb hgs hgn
  go_enter Tryd.func9, Tryd.ntmps9
  go_upto_region 1 with (fail)
  generalize ((w.alloc (.cells #[.int .i64 4, .string nm, .int .i64 v0, .int .i64 v1, .string v2, .int .i64 lo, .int .i64 hi, .slice A7 l.length c7] 26)).alloc (.cells #[.int .i64 id, .slice A1 n1 c1, .slice A2 fs.length c2] 30)) = w2 at *
  have k1 := cell_of_blk hV1 (j := 1) rfl
  have q2 := cell_of_blk hV2 (j := 2) rfl
  have HR := Lib.hid (Kd.C_below hr hb0)
  have HR2 := Lib.hid (Kd.C_below hr2 hb0)
  have HB0 := Lib.hid hb0
  clear hb0 hr hr2
  go_upto_region 2 with (go_at_call 28; refine (refGet_calls A2 c2 fs nm _ HR2.out hc2 hbf).mono ?_; rintro e w4 ⟨rfl, hB4⟩; rw [HGV.out])
  have hb5 : Below w2.heap.size w2 (w4.alloc (.cells #[.int .i64 g.f0, .int .i64 g.f1, .string g.f2] 23)) := hB4.alloc hB4.size _
  have hf5 := World.alloc_heap_new w4 (.cells #[.int .i64 g.f0, .int .i64 g.f1, .string g.f2] 23)
  generalize w4.alloc (.cells #[.int .i64 g.f0, .int .i64 g.f1, .string g.f2] 23) = w5 at *
  have hq1 := (hb5.block w.heap.size (by omega)).trans hV1
  have hq2 := (hb5.block (w.heap.size + 1) (by omega)).trans hV2
  have k0 := cell_of_blk hq1 (j := 0) rfl
  replace k1 := cell_of_blk hq1 (j := 1) rfl
  have k2 := cell_of_blk hq1 (j := 2) rfl
  have k3 := cell_of_blk hq1 (j := 3) rfl
  have k4 := cell_of_blk hq1 (j := 4) rfl
  have k5 := cell_of_blk hq1 (j := 5) rfl
  have k6 := cell_of_blk hq1 (j := 6) rfl
  have k7 := cell_of_blk hq1 (j := 7) rfl
  have q0 := cell_of_blk hq2 (j := 0) rfl
  have q1 := cell_of_blk hq2 (j := 1) rfl
  replace q2 := cell_of_blk hq2 (j := 2) rfl
  have g0 := cell_of_blk hf5 (j := 0) rfl
  have g1 := cell_of_blk hf5 (j := 1) rfl
  have g2 := cell_of_blk hf5 (j := 2) rfl
  have HRa := Lib.hid (Kd.C_below HR.out hb5)
  have HRb := Lib.hid (Kd.C_below HR2.out hb5)
  have HB5 := Lib.hid (HB0.out.trans (hb5.mono (by omega)))
  have hz5 : w.heap.size ≤ w5.heap.size := Nat.le_trans (by omega) hb5.size
  clear hV1 hV2 hB4 hb5 hf5 HR HR2 HB0 hz2 hq1 hq2
  cases b
  · have E := Lib.hid (show isC (getV fs nm) ⟨v0, v1, v2⟩ = false by rw [HGN.out rfl]; rfl)
    go_wp2_with fail
    go_ret
    exact ⟨by rw [E.out]; rfl, HB5.out⟩
  · obtain ⟨z, hz⟩ : ∃ z, z = cmpV g ⟨v0, v1, v2⟩ := ⟨_, rfl⟩
    have E : isC (getV fs nm) ⟨v0, v1, v2⟩ = decide (z = 0) := by rw [HGS.out rfl, hz]; rfl
    have HZ := Lib.hid hz
    clear hz
    by_cases hz0 : z = 0
    · have z1 : (z == 0) = true := by simp [hz0]
      rw [decide_eq_true hz0] at E
      have E := Lib.hid E
      go_wp2_with (first | (go_at_call 29; refine (cmp5_calls g ⟨v0, v1, v2⟩ _).mono ?_; rintro e w8 ⟨rfl, hB8⟩; rw [← HZ.out]))
      go_ret
      exact ⟨by rw [E.out]; rfl, HB5.out.trans (hB8.mono hz5)⟩
    · have z1 : (z == 0) = false := by simp [hz0]
      rw [decide_eq_false hz0] at E
      have E := Lib.hid E
      go_wp2_with (first | (go_at_call 29; refine (cmp5_calls g ⟨v0, v1, v2⟩ _).mono ?_; rintro e w8 ⟨rfl, hB8⟩; rw [← HZ.out]))
      go_ret
      exact ⟨by rw [E.out]; rfl, HB5.out.trans (hB8.mono hz5)⟩
set_option maxRecDepth 100000 in
set_option maxHeartbeats 1000000 in
theorem rpass5 (fs : List Fi) (hbf : fs.length ≤ 1048576) (nm : ByteArray) (v0 v1 : Int) (v2 : ByteArray) (lo hi : Int) (l : List Cn) (hlen : l.length ≤ 1048576) : Calls9 fs (⟨5, nm, ⟨v0, v1, v2⟩, lo, hi, l⟩ : Cn) := by
  intro A7 c7 id A1 n1 c1 A2 c2 w hr hr2 hc2
  dsimp only at hr hr2 hc2 ⊢
  have HP : Hid (passC fs (⟨5, nm, ⟨v0, v1, v2⟩, lo, hi, l⟩ : Cn) = inC (getV fs nm) lo hi) := Lib.hid (by rw [passC]; simp)
  rw [HP.out]
  have hV1 : ((w.alloc (.cells #[.int .i64 5, .string nm, .int .i64 v0, .int .i64 v1, .string v2, .int .i64 lo, .int .i64 hi, .slice A7 l.length c7] 26)).alloc (.cells #[.int .i64 id, .slice A1 n1 c1, .slice A2 fs.length c2] 30)).heap[w.heap.size]? = some (.cells #[.int .i64 5, .string nm, .int .i64 v0, .int .i64 v1, .string v2, .int .i64 lo, .int .i64 hi, .slice A7 l.length c7] 26 (0, 0)) := (Below.heap_alloc _ _ _ (by simp)).trans (World.alloc_heap_new w _)
  have hV2 : ((w.alloc (.cells #[.int .i64 5, .string nm, .int .i64 v0, .int .i64 v1, .string v2, .int .i64 lo, .int .i64 hi, .slice A7 l.length c7] 26)).alloc (.cells #[.int .i64 id, .slice A1 n1 c1, .slice A2 fs.length c2] 30)).heap[w.heap.size + 1]? = some (.cells #[.int .i64 id, .slice A1 n1 c1, .slice A2 fs.length c2] 30 (0, 0)) := by have h := World.alloc_heap_new (w.alloc (.cells #[.int .i64 5, .string nm, .int .i64 v0, .int .i64 v1, .string v2, .int .i64 lo, .int .i64 hi, .slice A7 l.length c7] 26)) (.cells #[.int .i64 id, .slice A1 n1 c1, .slice A2 fs.length c2] 30); rwa [World.size_alloc] at h
  have hb0 : Below w.heap.size w ((w.alloc (.cells #[.int .i64 5, .string nm, .int .i64 v0, .int .i64 v1, .string v2, .int .i64 lo, .int .i64 hi, .slice A7 l.length c7] 26)).alloc (.cells #[.int .i64 id, .slice A1 n1 c1, .slice A2 fs.length c2] 30)) := ((Below.refl _ w).alloc (Nat.le_refl _) _).alloc (by simp) _
  have hz2 : w.heap.size + 2 ≤ ((w.alloc (.cells #[.int .i64 5, .string nm, .int .i64 v0, .int .i64 v1, .string v2, .int .i64 lo, .int .i64 hi, .slice A7 l.length c7] 26)).alloc (.cells #[.int .i64 id, .slice A1 n1 c1, .slice A2 fs.length c2] 30)).heap.size := by simp
  obtain ⟨g, b, hgv, hgb, hgs, hgn⟩ := vOf_any (getV fs nm)
  have HGV := Lib.hid hgv
  have HGB := Lib.hid hgb
  have HGS := Lib.hid hgs
  have HGN := Lib.hid hgn
  clear hgv hgb hgs hgn
  go_enter Tryd.func9, Tryd.ntmps9
  go_upto_region 1 with (fail)
  generalize ((w.alloc (.cells #[.int .i64 5, .string nm, .int .i64 v0, .int .i64 v1, .string v2, .int .i64 lo, .int .i64 hi, .slice A7 l.length c7] 26)).alloc (.cells #[.int .i64 id, .slice A1 n1 c1, .slice A2 fs.length c2] 30)) = w2 at *
  have k1 := cell_of_blk hV1 (j := 1) rfl
  have q2 := cell_of_blk hV2 (j := 2) rfl
  have HR := Lib.hid (Kd.C_below hr hb0)
  have HR2 := Lib.hid (Kd.C_below hr2 hb0)
  have HB0 := Lib.hid hb0
  clear hb0 hr hr2
  go_upto_region 2 with (go_at_call 28; refine (refGet_calls A2 c2 fs nm _ HR2.out hc2 hbf).mono ?_; rintro e w4 ⟨rfl, hB4⟩; rw [HGV.out])
  have hb5 : Below w2.heap.size w2 (w4.alloc (.cells #[.int .i64 g.f0, .int .i64 g.f1, .string g.f2] 23)) := hB4.alloc hB4.size _
  have hf5 := World.alloc_heap_new w4 (.cells #[.int .i64 g.f0, .int .i64 g.f1, .string g.f2] 23)
  generalize w4.alloc (.cells #[.int .i64 g.f0, .int .i64 g.f1, .string g.f2] 23) = w5 at *
  have hq1 := (hb5.block w.heap.size (by omega)).trans hV1
  have hq2 := (hb5.block (w.heap.size + 1) (by omega)).trans hV2
  have k0 := cell_of_blk hq1 (j := 0) rfl
  replace k1 := cell_of_blk hq1 (j := 1) rfl
  have k2 := cell_of_blk hq1 (j := 2) rfl
  have k3 := cell_of_blk hq1 (j := 3) rfl
  have k4 := cell_of_blk hq1 (j := 4) rfl
  have k5 := cell_of_blk hq1 (j := 5) rfl
  have k6 := cell_of_blk hq1 (j := 6) rfl
  have k7 := cell_of_blk hq1 (j := 7) rfl
  have q0 := cell_of_blk hq2 (j := 0) rfl
  have q1 := cell_of_blk hq2 (j := 1) rfl
  replace q2 := cell_of_blk hq2 (j := 2) rfl
  have g0 := cell_of_blk hf5 (j := 0) rfl
  have g1 := cell_of_blk hf5 (j := 1) rfl
  have g2 := cell_of_blk hf5 (j := 2) rfl
  have HRa := Lib.hid (Kd.C_below HR.out hb5)
  have HRb := Lib.hid (Kd.C_below HR2.out hb5)
  have HB5 := Lib.hid (HB0.out.trans (hb5.mono (by omega)))
  have hz5 : w.heap.size ≤ w5.heap.size := Nat.le_trans (by omega) hb5.size
  clear hV1 hV2 hB4 hb5 hf5 HR HR2 HB0 hz2 hq1 hq2
  cases b
  · have E : inC (getV fs nm) lo hi = false := by rw [HGN.out rfl]; rfl
    have E := Lib.hid E
    go_wp2_with fail
    go_ret
    exact ⟨by first | rfl | (rw [E.out]; rfl), HB5.out⟩
  · have eg := HGS.out rfl
    by_cases a1 : g.f0 = 1
    · have b1 : (g.f0 == 1) = true := by simp [a1]
      by_cases a2 : lo ≤ g.f1
      · have b2 := eq_true a2
        have b2' : decide (lo ≤ g.f1) = true := decide_eq_true a2
        by_cases a3 : g.f1 ≤ hi
        · have b3 := eq_true a3
          have b3' : decide (g.f1 ≤ hi) = true := decide_eq_true a3
          have E : inC (getV fs nm) lo hi = true := by rw [eg]; unfold inC; simp [a1, a2, a3]
          clear eg
          have E := Lib.hid E
          go_wp2_with fail
          go_ret
          exact ⟨by first | rfl | (rw [E.out]; rfl), HB5.out⟩
        · have b3 := eq_false a3
          have b3' : decide (g.f1 ≤ hi) = false := decide_eq_false a3
          have E : inC (getV fs nm) lo hi = false := by rw [eg]; unfold inC; simp [a3]
          clear eg
          have E := Lib.hid E
          go_wp2_with fail
          go_ret
          exact ⟨by first | rfl | (rw [E.out]; rfl), HB5.out⟩
      · have b2 := eq_false a2
        have b2' : decide (lo ≤ g.f1) = false := decide_eq_false a2
        have E : inC (getV fs nm) lo hi = false := by rw [eg]; unfold inC; simp [a2]
        clear eg
        have E := Lib.hid E
        go_wp2_with fail
        go_ret
        exact ⟨by first | rfl | (rw [E.out]; rfl), HB5.out⟩
    · have b1 : (g.f0 == 1) = false := by simp [a1]
      have E : inC (getV fs nm) lo hi = false := by rw [eg]; unfold inC; simp [a1]
      clear eg
      have E := Lib.hid E
      go_wp2_with fail
      go_ret
      exact ⟨by first | rfl | (rw [E.out]; rfl), HB5.out⟩
set_option maxRecDepth 100000 in
set_option maxHeartbeats 1000000 in
theorem rpass7 (fs : List Fi) (hbf : fs.length ≤ 1048576) (nm : ByteArray) (v0 v1 : Int) (v2 : ByteArray) (lo hi : Int) (l : List Cn) (hlen : l.length ≤ 1048576) (ih : ∀ x ∈ l, Calls9 fs x) : Calls9 fs (⟨7, nm, ⟨v0, v1, v2⟩, lo, hi, l⟩ : Cn) := by
  intro A7 c7 id A1 n1 c1 A2 c2 w hr hr2 hc2
  dsimp only at hr hr2 hc2 ⊢
  have HP : Hid (passC fs (⟨7, nm, ⟨v0, v1, v2⟩, lo, hi, l⟩ : Cn) = ((l.map fun x => passC fs x).all fun b => b)) := Lib.hid (by rw [passC]; simp)
  rw [HP.out]
  have hV1 : ((w.alloc (.cells #[.int .i64 7, .string nm, .int .i64 v0, .int .i64 v1, .string v2, .int .i64 lo, .int .i64 hi, .slice A7 l.length c7] 26)).alloc (.cells #[.int .i64 id, .slice A1 n1 c1, .slice A2 fs.length c2] 30)).heap[w.heap.size]? = some (.cells #[.int .i64 7, .string nm, .int .i64 v0, .int .i64 v1, .string v2, .int .i64 lo, .int .i64 hi, .slice A7 l.length c7] 26 (0, 0)) := (Below.heap_alloc _ _ _ (by simp)).trans (World.alloc_heap_new w _)
  have hV2 : ((w.alloc (.cells #[.int .i64 7, .string nm, .int .i64 v0, .int .i64 v1, .string v2, .int .i64 lo, .int .i64 hi, .slice A7 l.length c7] 26)).alloc (.cells #[.int .i64 id, .slice A1 n1 c1, .slice A2 fs.length c2] 30)).heap[w.heap.size + 1]? = some (.cells #[.int .i64 id, .slice A1 n1 c1, .slice A2 fs.length c2] 30 (0, 0)) := by have h := World.alloc_heap_new (w.alloc (.cells #[.int .i64 7, .string nm, .int .i64 v0, .int .i64 v1, .string v2, .int .i64 lo, .int .i64 hi, .slice A7 l.length c7] 26)) (.cells #[.int .i64 id, .slice A1 n1 c1, .slice A2 fs.length c2] 30); rwa [World.size_alloc] at h
  have hb0 : Below w.heap.size w ((w.alloc (.cells #[.int .i64 7, .string nm, .int .i64 v0, .int .i64 v1, .string v2, .int .i64 lo, .int .i64 hi, .slice A7 l.length c7] 26)).alloc (.cells #[.int .i64 id, .slice A1 n1 c1, .slice A2 fs.length c2] 30)) := ((Below.refl _ w).alloc (Nat.le_refl _) _).alloc (by simp) _
  have hz2 : w.heap.size + 2 ≤ ((w.alloc (.cells #[.int .i64 7, .string nm, .int .i64 v0, .int .i64 v1, .string v2, .int .i64 lo, .int .i64 hi, .slice A7 l.length c7] 26)).alloc (.cells #[.int .i64 id, .slice A1 n1 c1, .slice A2 fs.length c2] 30)).heap.size := by simp
  obtain ⟨g, b, hgv, hgb, hgs, hgn⟩ := vOf_any (getV fs nm)
  have HGV := Lib.hid hgv
  have HGB := Lib.hid hgb
  have HGS := Lib.hid hgs
  have HGN := Lib.hid hgn
  clear hgv hgb hgs hgn
  go_enter Tryd.func9, Tryd.ntmps9
  go_upto_region 1 with (fail)
  generalize ((w.alloc (.cells #[.int .i64 7, .string nm, .int .i64 v0, .int .i64 v1, .string v2, .int .i64 lo, .int .i64 hi, .slice A7 l.length c7] 26)).alloc (.cells #[.int .i64 id, .slice A1 n1 c1, .slice A2 fs.length c2] 30)) = w2 at *
  have k1 := cell_of_blk hV1 (j := 1) rfl
  have q2 := cell_of_blk hV2 (j := 2) rfl
  have HR := Lib.hid (Kd.C_below hr hb0)
  have HR2 := Lib.hid (Kd.C_below hr2 hb0)
  have HB0 := Lib.hid hb0
  clear hb0 hr hr2
  go_upto_region 2 with (go_at_call 28; refine (refGet_calls A2 c2 fs nm _ HR2.out hc2 hbf).mono ?_; rintro e w4 ⟨rfl, hB4⟩; rw [HGV.out])
  have hb5 : Below w2.heap.size w2 (w4.alloc (.cells #[.int .i64 g.f0, .int .i64 g.f1, .string g.f2] 23)) := hB4.alloc hB4.size _
  have hf5 := World.alloc_heap_new w4 (.cells #[.int .i64 g.f0, .int .i64 g.f1, .string g.f2] 23)
  generalize w4.alloc (.cells #[.int .i64 g.f0, .int .i64 g.f1, .string g.f2] 23) = w5 at *
  have hq1 := (hb5.block w.heap.size (by omega)).trans hV1
  have hq2 := (hb5.block (w.heap.size + 1) (by omega)).trans hV2
  have k0 := cell_of_blk hq1 (j := 0) rfl
  replace k1 := cell_of_blk hq1 (j := 1) rfl
  have k2 := cell_of_blk hq1 (j := 2) rfl
  have k3 := cell_of_blk hq1 (j := 3) rfl
  have k4 := cell_of_blk hq1 (j := 4) rfl
  have k5 := cell_of_blk hq1 (j := 5) rfl
  have k6 := cell_of_blk hq1 (j := 6) rfl
  have k7 := cell_of_blk hq1 (j := 7) rfl
  have q0 := cell_of_blk hq2 (j := 0) rfl
  have q1 := cell_of_blk hq2 (j := 1) rfl
  replace q2 := cell_of_blk hq2 (j := 2) rfl
  have g0 := cell_of_blk hf5 (j := 0) rfl
  have g1 := cell_of_blk hf5 (j := 1) rfl
  have g2 := cell_of_blk hf5 (j := 2) rfl
  have HRa := Lib.hid (Kd.C_below HR.out hb5)
  have HRb := Lib.hid (Kd.C_below HR2.out hb5)
  have HB5 := Lib.hid (HB0.out.trans (hb5.mono (by omega)))
  have hz5 : w.heap.size ≤ w5.heap.size := Nat.le_trans (by omega) hb5.size
  clear hV1 hV2 hB4 hb5 hf5 HR HR2 HB0 hz2 hq1 hq2
  go_wp2_with fail
  go_loopw [7] (fun s wr => ∃ k : Nat, k ≤ l.length ∧ s = .int .i64 k ∧ (∀ x ∈ l.take k, passC fs x = true) ∧ Below w5.heap.size w5 wr) (fun s _ => l.length - (intOf s).toNat)
  case atStart => exact ⟨0, Nat.zero_le _, rfl, by simp, Below.refl _ _⟩
  case round =>
    obtain ⟨k, hk, rfl, hall, hBr⟩ := hrel
    have HAL := Lib.hid hall
    have HBR := Lib.hid hBr
    replace k7 := pw_cell_below hBr k7
    replace q0 := pw_cell_below hBr q0
    replace q1 := pw_cell_below hBr q1
    replace q2 := pw_cell_below hBr q2
    by_cases hlt : k < l.length
    · have hlt' : decide ((k : Int) < (l.length : Int)) = true := decide_eq_true (by omega)
      obtain ⟨b0, o0, rfl, hb, hcs⟩ := conds_of_C HRa.out (by omega)
      obtain ⟨A', c', d0, d1, d2, d3, d4, d5, d6, d7, d8, d9⟩ := hcs k hlt
      have HRx := Lib.hid (Kd.C_drew (Kd.C_below d9 hBr))
      have HRc := Lib.hid (Kd.C_drew (Kd.C_below HRb.out hBr))
      clear hcs d9 hall
      have p1 := eq_true (show (0 : Int) ≤ (k : Int) by omega)
      have p2 := eq_true (show (k : Int) < (l.length : Int) by omega)
      have p3 : (k < l.length) = True := eq_true hlt
      replace d0 := (hBr.cell (p := ⟨b0, o0 + k * 8, none⟩) hb).trans d0
      replace d1 := (hBr.cell (p := ⟨b0, o0 + k * 8 + 1, none⟩) hb).trans d1
      replace d2 := (hBr.cell (p := ⟨b0, o0 + k * 8 + 2, none⟩) hb).trans d2
      replace d3 := (hBr.cell (p := ⟨b0, o0 + k * 8 + 3, none⟩) hb).trans d3
      replace d4 := (hBr.cell (p := ⟨b0, o0 + k * 8 + 4, none⟩) hb).trans d4
      replace d5 := (hBr.cell (p := ⟨b0, o0 + k * 8 + 5, none⟩) hb).trans d5
      replace d6 := (hBr.cell (p := ⟨b0, o0 + k * 8 + 6, none⟩) hb).trans d6
      replace d7 := (hBr.cell (p := ⟨b0, o0 + k * 8 + 7, none⟩) hb).trans d7
      have HX := Lib.hid (ih l[k] (List.getElem_mem hlt))
      obtain ⟨z, hz⟩ : ∃ z, z = passC fs l[k] := ⟨_, rfl⟩
      have HZ := Lib.hid hz
      clear hz
      have HE := Lib.hid (take_one (v := true) hlt HAL.out)
      have HN : Hid (false = passC fs l[k] → ((l.map fun x => passC fs x).all fun b => b) = false) := Lib.hid (all_no hlt)
      generalize l[k] = y at *
      have hzr : w5.heap.size ≤ wr.heap.size := hBr.size
      clear hBr d8
      go_upto_region 17 with (fail)
      replace d0 : wr.drew.cell? _ = _ := d0
      replace d1 : wr.drew.cell? _ = _ := d1
      replace d2 : wr.drew.cell? _ = _ := d2
      replace d3 : wr.drew.cell? _ = _ := d3
      replace d4 : wr.drew.cell? _ = _ := d4
      replace d5 : wr.drew.cell? _ = _ := d5
      replace d6 : wr.drew.cell? _ = _ := d6
      replace d7 : wr.drew.cell? _ = _ := d7
      replace k7 : wr.drew.cell? _ = _ := k7
      replace q0 : wr.drew.cell? _ = _ := q0
      replace q1 : wr.drew.cell? _ = _ := q1
      replace q2 : wr.drew.cell? _ = _ := q2
      refine still_tail 6 (by kernel_rfl) (by kernel_rfl) ?_
      simp only [List.take_succ_cons, List.take_zero, List.drop_succ_cons, List.drop_zero]
      still_step
      still_step
      still_step
      still_step
      still_step
      still_step
      refine wpStill_nil ?_
      cases z
      · go_wp2_with (first | (go_at_call 9; refine (HX.out _ _ _ _ _ _ _ _ _ HRx.out HRc.out hc2).mono ?_; rintro e w6 ⟨rfl, hB6⟩; rw [← HZ.out]))
        go_ret
        exact ⟨by rw [HN.out HZ.out]; rfl, HB5.out.trans ((HBR.out.trans (((below_drew (Below.refl _ wr)).trans hB6).mono (by show _ ≤ wr.heap.size; omega))).mono (by omega))⟩
      · go_wp2_with (first | (go_at_call 9; refine (HX.out _ _ _ _ _ _ _ _ _ HRx.out HRc.out hc2).mono ?_; rintro e w6 ⟨rfl, hB6⟩; rw [← HZ.out]))
        go_roundw
        case rel => exact ⟨k + 1, by omega, by go_num, HE.out HZ.out, HBR.out.trans (((below_drew (Below.refl _ wr)).trans hB6).mono (by show _ ≤ wr.heap.size; omega))⟩
        case measure => simp [intOf]; omega
    · have hlt' : decide ((k : Int) < (l.length : Int)) = false := decide_eq_false (by omega)
      have E := Lib.hid (show ((l.map fun x => passC fs x).all fun b => b) = true from all_yes (by rw [List.take_of_length_le (by omega)] at hall; exact hall))
      clear hall hBr
      go_wp2_with fail
      go_ret
      exact ⟨by rw [E.out]; rfl, HB5.out.trans (HBR.out.mono (by omega))⟩
set_option maxRecDepth 100000 in
set_option maxHeartbeats 1000000 in
theorem rpass8 (fs : List Fi) (hbf : fs.length ≤ 1048576) (nm : ByteArray) (v0 v1 : Int) (v2 : ByteArray) (lo hi : Int) (l : List Cn) (hlen : l.length ≤ 1048576) (ih : ∀ x ∈ l, Calls9 fs x) : Calls9 fs (⟨8, nm, ⟨v0, v1, v2⟩, lo, hi, l⟩ : Cn) := by
  intro A7 c7 id A1 n1 c1 A2 c2 w hr hr2 hc2
  dsimp only at hr hr2 hc2 ⊢
  have HP : Hid (passC fs (⟨8, nm, ⟨v0, v1, v2⟩, lo, hi, l⟩ : Cn) = ((l.map fun x => passC fs x).any fun b => b)) := Lib.hid (by rw [passC]; simp)
  rw [HP.out]
  have hV1 : ((w.alloc (.cells #[.int .i64 8, .string nm, .int .i64 v0, .int .i64 v1, .string v2, .int .i64 lo, .int .i64 hi, .slice A7 l.length c7] 26)).alloc (.cells #[.int .i64 id, .slice A1 n1 c1, .slice A2 fs.length c2] 30)).heap[w.heap.size]? = some (.cells #[.int .i64 8, .string nm, .int .i64 v0, .int .i64 v1, .string v2, .int .i64 lo, .int .i64 hi, .slice A7 l.length c7] 26 (0, 0)) := (Below.heap_alloc _ _ _ (by simp)).trans (World.alloc_heap_new w _)
  have hV2 : ((w.alloc (.cells #[.int .i64 8, .string nm, .int .i64 v0, .int .i64 v1, .string v2, .int .i64 lo, .int .i64 hi, .slice A7 l.length c7] 26)).alloc (.cells #[.int .i64 id, .slice A1 n1 c1, .slice A2 fs.length c2] 30)).heap[w.heap.size + 1]? = some (.cells #[.int .i64 id, .slice A1 n1 c1, .slice A2 fs.length c2] 30 (0, 0)) := by have h := World.alloc_heap_new (w.alloc (.cells #[.int .i64 8, .string nm, .int .i64 v0, .int .i64 v1, .string v2, .int .i64 lo, .int .i64 hi, .slice A7 l.length c7] 26)) (.cells #[.int .i64 id, .slice A1 n1 c1, .slice A2 fs.length c2] 30); rwa [World.size_alloc] at h
  have hb0 : Below w.heap.size w ((w.alloc (.cells #[.int .i64 8, .string nm, .int .i64 v0, .int .i64 v1, .string v2, .int .i64 lo, .int .i64 hi, .slice A7 l.length c7] 26)).alloc (.cells #[.int .i64 id, .slice A1 n1 c1, .slice A2 fs.length c2] 30)) := ((Below.refl _ w).alloc (Nat.le_refl _) _).alloc (by simp) _
  have hz2 : w.heap.size + 2 ≤ ((w.alloc (.cells #[.int .i64 8, .string nm, .int .i64 v0, .int .i64 v1, .string v2, .int .i64 lo, .int .i64 hi, .slice A7 l.length c7] 26)).alloc (.cells #[.int .i64 id, .slice A1 n1 c1, .slice A2 fs.length c2] 30)).heap.size := by simp
  obtain ⟨g, b, hgv, hgb, hgs, hgn⟩ := vOf_any (getV fs nm)
  have HGV := Lib.hid hgv
  have HGB := Lib.hid hgb
  have HGS := Lib.hid hgs
  have HGN := Lib.hid hgn
  clear hgv hgb hgs hgn
  go_enter Tryd.func9, Tryd.ntmps9
  go_upto_region 1 with (fail)
  generalize ((w.alloc (.cells #[.int .i64 8, .string nm, .int .i64 v0, .int .i64 v1, .string v2, .int .i64 lo, .int .i64 hi, .slice A7 l.length c7] 26)).alloc (.cells #[.int .i64 id, .slice A1 n1 c1, .slice A2 fs.length c2] 30)) = w2 at *
  have k1 := cell_of_blk hV1 (j := 1) rfl
  have q2 := cell_of_blk hV2 (j := 2) rfl
  have HR := Lib.hid (Kd.C_below hr hb0)
  have HR2 := Lib.hid (Kd.C_below hr2 hb0)
  have HB0 := Lib.hid hb0
  clear hb0 hr hr2
  go_upto_region 2 with (go_at_call 28; refine (refGet_calls A2 c2 fs nm _ HR2.out hc2 hbf).mono ?_; rintro e w4 ⟨rfl, hB4⟩; rw [HGV.out])
  have hb5 : Below w2.heap.size w2 (w4.alloc (.cells #[.int .i64 g.f0, .int .i64 g.f1, .string g.f2] 23)) := hB4.alloc hB4.size _
  have hf5 := World.alloc_heap_new w4 (.cells #[.int .i64 g.f0, .int .i64 g.f1, .string g.f2] 23)
  generalize w4.alloc (.cells #[.int .i64 g.f0, .int .i64 g.f1, .string g.f2] 23) = w5 at *
  have hq1 := (hb5.block w.heap.size (by omega)).trans hV1
  have hq2 := (hb5.block (w.heap.size + 1) (by omega)).trans hV2
  have k0 := cell_of_blk hq1 (j := 0) rfl
  replace k1 := cell_of_blk hq1 (j := 1) rfl
  have k2 := cell_of_blk hq1 (j := 2) rfl
  have k3 := cell_of_blk hq1 (j := 3) rfl
  have k4 := cell_of_blk hq1 (j := 4) rfl
  have k5 := cell_of_blk hq1 (j := 5) rfl
  have k6 := cell_of_blk hq1 (j := 6) rfl
  have k7 := cell_of_blk hq1 (j := 7) rfl
  have q0 := cell_of_blk hq2 (j := 0) rfl
  have q1 := cell_of_blk hq2 (j := 1) rfl
  replace q2 := cell_of_blk hq2 (j := 2) rfl
  have g0 := cell_of_blk hf5 (j := 0) rfl
  have g1 := cell_of_blk hf5 (j := 1) rfl
  have g2 := cell_of_blk hf5 (j := 2) rfl
  have HRa := Lib.hid (Kd.C_below HR.out hb5)
  have HRb := Lib.hid (Kd.C_below HR2.out hb5)
  have HB5 := Lib.hid (HB0.out.trans (hb5.mono (by omega)))
  have hz5 : w.heap.size ≤ w5.heap.size := Nat.le_trans (by omega) hb5.size
  clear hV1 hV2 hB4 hb5 hf5 HR HR2 HB0 hz2 hq1 hq2
  go_wp2_with fail
  go_loopw [8] (fun s wr => ∃ k : Nat, k ≤ l.length ∧ s = .int .i64 k ∧ (∀ x ∈ l.take k, passC fs x = false) ∧ Below w5.heap.size w5 wr) (fun s _ => l.length - (intOf s).toNat)
  case atStart => exact ⟨0, Nat.zero_le _, rfl, by simp, Below.refl _ _⟩
  case round =>
    obtain ⟨k, hk, rfl, hall, hBr⟩ := hrel
    have HAL := Lib.hid hall
    have HBR := Lib.hid hBr
    replace k7 := pw_cell_below hBr k7
    replace q0 := pw_cell_below hBr q0
    replace q1 := pw_cell_below hBr q1
    replace q2 := pw_cell_below hBr q2
    by_cases hlt : k < l.length
    · have hlt' : decide ((k : Int) < (l.length : Int)) = true := decide_eq_true (by omega)
      obtain ⟨b0, o0, rfl, hb, hcs⟩ := conds_of_C HRa.out (by omega)
      obtain ⟨A', c', d0, d1, d2, d3, d4, d5, d6, d7, d8, d9⟩ := hcs k hlt
      have HRx := Lib.hid (Kd.C_drew (Kd.C_below d9 hBr))
      have HRc := Lib.hid (Kd.C_drew (Kd.C_below HRb.out hBr))
      clear hcs d9 hall
      have p1 := eq_true (show (0 : Int) ≤ (k : Int) by omega)
      have p2 := eq_true (show (k : Int) < (l.length : Int) by omega)
      have p3 : (k < l.length) = True := eq_true hlt
      replace d0 := (hBr.cell (p := ⟨b0, o0 + k * 8, none⟩) hb).trans d0
      replace d1 := (hBr.cell (p := ⟨b0, o0 + k * 8 + 1, none⟩) hb).trans d1
      replace d2 := (hBr.cell (p := ⟨b0, o0 + k * 8 + 2, none⟩) hb).trans d2
      replace d3 := (hBr.cell (p := ⟨b0, o0 + k * 8 + 3, none⟩) hb).trans d3
      replace d4 := (hBr.cell (p := ⟨b0, o0 + k * 8 + 4, none⟩) hb).trans d4
      replace d5 := (hBr.cell (p := ⟨b0, o0 + k * 8 + 5, none⟩) hb).trans d5
      replace d6 := (hBr.cell (p := ⟨b0, o0 + k * 8 + 6, none⟩) hb).trans d6
      replace d7 := (hBr.cell (p := ⟨b0, o0 + k * 8 + 7, none⟩) hb).trans d7
      have HX := Lib.hid (ih l[k] (List.getElem_mem hlt))
      obtain ⟨z, hz⟩ : ∃ z, z = passC fs l[k] := ⟨_, rfl⟩
      have HZ := Lib.hid hz
      clear hz
      have HE := Lib.hid (take_one (v := false) hlt HAL.out)
      have HN : Hid (true = passC fs l[k] → ((l.map fun x => passC fs x).any fun b => b) = true) := Lib.hid (any_yes hlt)
      generalize l[k] = y at *
      have hzr : w5.heap.size ≤ wr.heap.size := hBr.size
      clear hBr d8
      go_upto_region 24 with (fail)
      replace d0 : wr.drew.cell? _ = _ := d0
      replace d1 : wr.drew.cell? _ = _ := d1
      replace d2 : wr.drew.cell? _ = _ := d2
      replace d3 : wr.drew.cell? _ = _ := d3
      replace d4 : wr.drew.cell? _ = _ := d4
      replace d5 : wr.drew.cell? _ = _ := d5
      replace d6 : wr.drew.cell? _ = _ := d6
      replace d7 : wr.drew.cell? _ = _ := d7
      replace k7 : wr.drew.cell? _ = _ := k7
      replace q0 : wr.drew.cell? _ = _ := q0
      replace q1 : wr.drew.cell? _ = _ := q1
      replace q2 : wr.drew.cell? _ = _ := q2
      refine still_tail 6 (by kernel_rfl) (by kernel_rfl) ?_
      simp only [List.take_succ_cons, List.take_zero, List.drop_succ_cons, List.drop_zero]
      still_step
      still_step
      still_step
      still_step
      still_step
      still_step
      refine wpStill_nil ?_
      cases z
      · go_wp2_with (first | (go_at_call 9; refine (HX.out _ _ _ _ _ _ _ _ _ HRx.out HRc.out hc2).mono ?_; rintro e w6 ⟨rfl, hB6⟩; rw [← HZ.out]))
        go_roundw
        case rel => exact ⟨k + 1, by omega, by go_num, HE.out HZ.out, HBR.out.trans (((below_drew (Below.refl _ wr)).trans hB6).mono (by show _ ≤ wr.heap.size; omega))⟩
        case measure => simp [intOf]; omega
      · go_wp2_with (first | (go_at_call 9; refine (HX.out _ _ _ _ _ _ _ _ _ HRx.out HRc.out hc2).mono ?_; rintro e w6 ⟨rfl, hB6⟩; rw [← HZ.out]))
        go_ret
        exact ⟨by rw [HN.out HZ.out]; rfl, HB5.out.trans ((HBR.out.trans (((below_drew (Below.refl _ wr)).trans hB6).mono (by show _ ≤ wr.heap.size; omega))).mono (by omega))⟩
    · have hlt' : decide ((k : Int) < (l.length : Int)) = false := decide_eq_false (by omega)
      have E := Lib.hid (show ((l.map fun x => passC fs x).any fun b => b) = false from any_no (by rw [List.take_of_length_le (by omega)] at hall; exact hall))
      clear hall hBr
      go_wp2_with fail
      go_ret
      exact ⟨by rw [E.out]; rfl, HB5.out.trans (HBR.out.mono (by omega))⟩
set_option maxRecDepth 100000 in
set_option maxHeartbeats 1000000 in
theorem rpass6 (fs : List Fi) (hbf : fs.length ≤ 1048576) (nm : ByteArray) (v0 v1 : Int) (v2 : ByteArray) (lo hi : Int) (l : List Cn) (hlen : l.length ≤ 1048576) (ih : ∀ x ∈ l, Calls9 fs x) : Calls9 fs (⟨6, nm, ⟨v0, v1, v2⟩, lo, hi, l⟩ : Cn) := by
  intro A7 c7 id A1 n1 c1 A2 c2 w hr hr2 hc2
  dsimp only at hr hr2 hc2 ⊢
  have HP : Hid (passC fs (⟨6, nm, ⟨v0, v1, v2⟩, lo, hi, l⟩ : Cn) = (decide (l.length = 1) && (l.map fun x => passC fs x).all fun b => !b)) := Lib.hid (by rw [passC]; simp)
  rw [HP.out]
  have hV1 : ((w.alloc (.cells #[.int .i64 6, .string nm, .int .i64 v0, .int .i64 v1, .string v2, .int .i64 lo, .int .i64 hi, .slice A7 l.length c7] 26)).alloc (.cells #[.int .i64 id, .slice A1 n1 c1, .slice A2 fs.length c2] 30)).heap[w.heap.size]? = some (.cells #[.int .i64 6, .string nm, .int .i64 v0, .int .i64 v1, .string v2, .int .i64 lo, .int .i64 hi, .slice A7 l.length c7] 26 (0, 0)) := (Below.heap_alloc _ _ _ (by simp)).trans (World.alloc_heap_new w _)
  have hV2 : ((w.alloc (.cells #[.int .i64 6, .string nm, .int .i64 v0, .int .i64 v1, .string v2, .int .i64 lo, .int .i64 hi, .slice A7 l.length c7] 26)).alloc (.cells #[.int .i64 id, .slice A1 n1 c1, .slice A2 fs.length c2] 30)).heap[w.heap.size + 1]? = some (.cells #[.int .i64 id, .slice A1 n1 c1, .slice A2 fs.length c2] 30 (0, 0)) := by have h := World.alloc_heap_new (w.alloc (.cells #[.int .i64 6, .string nm, .int .i64 v0, .int .i64 v1, .string v2, .int .i64 lo, .int .i64 hi, .slice A7 l.length c7] 26)) (.cells #[.int .i64 id, .slice A1 n1 c1, .slice A2 fs.length c2] 30); rwa [World.size_alloc] at h
  have hb0 : Below w.heap.size w ((w.alloc (.cells #[.int .i64 6, .string nm, .int .i64 v0, .int .i64 v1, .string v2, .int .i64 lo, .int .i64 hi, .slice A7 l.length c7] 26)).alloc (.cells #[.int .i64 id, .slice A1 n1 c1, .slice A2 fs.length c2] 30)) := ((Below.refl _ w).alloc (Nat.le_refl _) _).alloc (by simp) _
  have hz2 : w.heap.size + 2 ≤ ((w.alloc (.cells #[.int .i64 6, .string nm, .int .i64 v0, .int .i64 v1, .string v2, .int .i64 lo, .int .i64 hi, .slice A7 l.length c7] 26)).alloc (.cells #[.int .i64 id, .slice A1 n1 c1, .slice A2 fs.length c2] 30)).heap.size := by simp
  obtain ⟨g, b, hgv, hgb, hgs, hgn⟩ := vOf_any (getV fs nm)
  have HGV := Lib.hid hgv
  have HGB := Lib.hid hgb
  have HGS := Lib.hid hgs
  have HGN := Lib.hid hgn
  clear hgv hgb hgs hgn
  go_enter Tryd.func9, Tryd.ntmps9
  go_upto_region 1 with (fail)
  generalize ((w.alloc (.cells #[.int .i64 6, .string nm, .int .i64 v0, .int .i64 v1, .string v2, .int .i64 lo, .int .i64 hi, .slice A7 l.length c7] 26)).alloc (.cells #[.int .i64 id, .slice A1 n1 c1, .slice A2 fs.length c2] 30)) = w2 at *
  have k1 := cell_of_blk hV1 (j := 1) rfl
  have q2 := cell_of_blk hV2 (j := 2) rfl
  have HR := Lib.hid (Kd.C_below hr hb0)
  have HR2 := Lib.hid (Kd.C_below hr2 hb0)
  have HB0 := Lib.hid hb0
  clear hb0 hr hr2
  go_upto_region 2 with (go_at_call 28; refine (refGet_calls A2 c2 fs nm _ HR2.out hc2 hbf).mono ?_; rintro e w4 ⟨rfl, hB4⟩; rw [HGV.out])
  have hb5 : Below w2.heap.size w2 (w4.alloc (.cells #[.int .i64 g.f0, .int .i64 g.f1, .string g.f2] 23)) := hB4.alloc hB4.size _
  have hf5 := World.alloc_heap_new w4 (.cells #[.int .i64 g.f0, .int .i64 g.f1, .string g.f2] 23)
  generalize w4.alloc (.cells #[.int .i64 g.f0, .int .i64 g.f1, .string g.f2] 23) = w5 at *
  have hq1 := (hb5.block w.heap.size (by omega)).trans hV1
  have hq2 := (hb5.block (w.heap.size + 1) (by omega)).trans hV2
  have k0 := cell_of_blk hq1 (j := 0) rfl
  replace k1 := cell_of_blk hq1 (j := 1) rfl
  have k2 := cell_of_blk hq1 (j := 2) rfl
  have k3 := cell_of_blk hq1 (j := 3) rfl
  have k4 := cell_of_blk hq1 (j := 4) rfl
  have k5 := cell_of_blk hq1 (j := 5) rfl
  have k6 := cell_of_blk hq1 (j := 6) rfl
  have k7 := cell_of_blk hq1 (j := 7) rfl
  have q0 := cell_of_blk hq2 (j := 0) rfl
  have q1 := cell_of_blk hq2 (j := 1) rfl
  replace q2 := cell_of_blk hq2 (j := 2) rfl
  have g0 := cell_of_blk hf5 (j := 0) rfl
  have g1 := cell_of_blk hf5 (j := 1) rfl
  have g2 := cell_of_blk hf5 (j := 2) rfl
  have HRa := Lib.hid (Kd.C_below HR.out hb5)
  have HRb := Lib.hid (Kd.C_below HR2.out hb5)
  have HB5 := Lib.hid (HB0.out.trans (hb5.mono (by omega)))
  have hz5 : w.heap.size ≤ w5.heap.size := Nat.le_trans (by omega) hb5.size
  clear hV1 hV2 hB4 hb5 hf5 HR HR2 HB0 hz2 hq1 hq2
  by_cases hl1 : l.length = 1
  · obtain ⟨y, rfl⟩ := List.length_eq_one_iff.1 hl1
    obtain ⟨b0, o0, rfl, hb, hcs⟩ := conds_of_C HRa.out (by simp)
    obtain ⟨A', c', d0, d1, d2, d3, d4, d5, d6, d7, d8, d9⟩ := hcs 0 (by simp)
    simp only [List.getElem_cons_zero, Nat.zero_mul, Nat.add_zero] at d0 d1 d2 d3 d4 d5 d6 d7 d9
    have HRx := Lib.hid (Kd.C_drew d9)
    have HRc := Lib.hid (Kd.C_drew HRb.out)
    have HX := Lib.hid (ih y (by simp))
    have E : (decide ([y].length = 1) && ([y].map fun x => passC fs x).all fun b => !b) = !passC fs y := by simp
    obtain ⟨z, hz⟩ : ∃ z, z = passC fs y := ⟨_, rfl⟩
    have HZ := Lib.hid hz
    rw [← hz] at E
    have HEE := Lib.hid E
    clear hcs d9 hz E d8 hl1
    go_upto_region 12 with (fail)
    replace d0 : w5.drew.cell? _ = _ := d0
    replace d1 : w5.drew.cell? _ = _ := d1
    replace d2 : w5.drew.cell? _ = _ := d2
    replace d3 : w5.drew.cell? _ = _ := d3
    replace d4 : w5.drew.cell? _ = _ := d4
    replace d5 : w5.drew.cell? _ = _ := d5
    replace d6 : w5.drew.cell? _ = _ := d6
    replace d7 : w5.drew.cell? _ = _ := d7
    replace k7 : w5.drew.cell? _ = _ := k7
    replace q0 : w5.drew.cell? _ = _ := q0
    replace q1 : w5.drew.cell? _ = _ := q1
    replace q2 : w5.drew.cell? _ = _ := q2
    refine still_tail 10 (by kernel_rfl) (by kernel_rfl) ?_
    simp only [List.take_succ_cons, List.take_zero, List.drop_succ_cons, List.drop_zero]
    still_step
    still_step
    still_step
    still_step
    still_step
    still_step
    still_step
    still_step
    still_step
    still_step
    refine wpStill_nil ?_
    cases z
    · go_wp2_with (first | (go_at_call 9; refine (HX.out _ _ _ _ _ _ _ _ _ HRx.out HRc.out hc2).mono ?_; rintro e w6 ⟨rfl, hB6⟩; rw [← HZ.out]))
      go_ret
      exact ⟨by rw [HEE.out]; rfl, HB5.out.trans (((below_drew (Below.refl _ w5)).trans hB6).mono (by show _ ≤ w5.heap.size; omega))⟩
    · go_wp2_with (first | (go_at_call 9; refine (HX.out _ _ _ _ _ _ _ _ _ HRx.out HRc.out hc2).mono ?_; rintro e w6 ⟨rfl, hB6⟩; rw [← HZ.out]))
      go_ret
      exact ⟨by rw [HEE.out]; rfl, HB5.out.trans (((below_drew (Below.refl _ w5)).trans hB6).mono (by show _ ≤ w5.heap.size; omega))⟩
  · have b1 : ((l.length : Int) == 1) = false := by rw [beq_eq_false_iff_ne]; omega
    have E := Lib.hid (show (decide (l.length = 1) && (l.map fun x => passC fs x).all fun b => !b) = false by rw [decide_eq_false hl1]; rfl)
    go_wp2_with fail
    go_quiet (fail)
    go_wp2_with fail
    go_ret
    exact ⟨by rw [E.out]; rfl, HB5.out.trans ⟨rfl, rfl, rfl, by show _ ≤ w5.heap.size; omega, fun _ _ => rfl⟩⟩
theorem refPasses_all (fs : List Fi) (hbf : fs.length ≤ 1048576) {c : Cn} (hs : Small c) : Calls9 fs c := by
  induction hs with
  | mk c hlen hsub ih =>
    obtain ⟨k, nm, ⟨v0, v1, v2⟩, lo, hi, l⟩ := c
    rcases kinds k with rfl | rfl | rfl | rfl | rfl | rfl | rfl | rfl | ⟨h1, h2, h3, h4, h5, h6, h7, h8⟩
    · exact rpass1 fs hbf nm v0 v1 v2 lo hi l hlen
    · exact rpass2 fs hbf nm v0 v1 v2 lo hi l hlen
    · exact rpass3 fs hbf nm v0 v1 v2 lo hi l hlen
    · exact rpass4 fs hbf nm v0 v1 v2 lo hi l hlen
    · exact rpass5 fs hbf nm v0 v1 v2 lo hi l hlen
    · exact rpass6 fs hbf nm v0 v1 v2 lo hi l hlen ih
    · exact rpass7 fs hbf nm v0 v1 v2 lo hi l hlen ih
    · exact rpass8 fs hbf nm v0 v1 v2 lo hi l hlen ih
    · exact rpass9 fs hbf k nm v0 v1 v2 lo hi l hlen h1 h2 h3 h4 h5 h6 h7 h8
theorem refPasses_calls (c : Cn) (A7 : Option Addr) (c7 : Nat) (id : Int) (A1 : Option Addr) (c1 : Nat) (vs : List S92) (A2 : Option Addr) (c2 : Nat) (fs : List Fi) (w : World) (hs : Small c) (hr : Kd.C k26 w A7 c.f5.length c.f5) (hc : c.f5.length ≤ c7) (hr2 : Kd.C k62 w A2 fs.length fs) (hc2 : fs.length ≤ c2) (hb : fs.length ≤ 1048576) :
    Calls Tryd.prog 9 #[.agg #[.int .i64 c.f0, .string c.f1, .int .i64 c.f2.f0, .int .i64 c.f2.f1, .string c.f2.f2, .int .i64 c.f3, .int .i64 c.f4, .slice A7 c.f5.length c7], .agg #[.int .i64 id, .slice A1 vs.length c1, .slice A2 fs.length c2]] w fun e w' => e = .returned (.bool (passC fs c)) ∧ Below w.heap.size w w' :=
  refPasses_all fs hb hs A7 c7 id A1 vs.length c1 A2 c2 w hr hr2 hc2
end Go.Proofs.YthaofmbjkdikbaaDoor.F

/- Filter: filter.Passes answers as passC says (written by hp/genpass.py). -/
import Derived.Test.YthaofmbjkdikbaaDoorFPass
namespace Go.Proofs.YthaofmbjkdikbaaDoor.F
open Go.RowKit Go.Lib Go.Sort Go.Shelf Go.Proofs.YthaofmbjkdikbaaDoorW.PrintWords Go.Proofs.YthaofmbjkdikbaaDoor.PAll Go.Proofs.YthaofmbjkdikbaaDoor.V
set_option linter.unusedVariables false
theorem vOf_some (v : Va) : vOf (some v) = .tuple #[.agg #[.int .i64 v.f0, .int .i64 v.f1, .string v.f2], .bool true] := rfl
theorem vOf_none : vOf none = .tuple #[.agg #[.int .i64 0, .int .i64 0, .string ⟨#[]⟩], .bool false] := rfl
theorem below_grow (W : World) (q : Nat) (os : Array Obj) : Below W.heap.size W (grow (W.drewN q) os) := ⟨rfl, rfl, rfl, by simp, fun k hk => heap_grow_old _ _ hk⟩
theorem all_no {fs : List Fi} {l : List Cn} {k : Nat} (hlt : k < l.length) (h : false = passC fs l[k]) : ((l.map fun x => passC fs x).all fun b => b) = false := by
  rw [List.all_eq_false]
  exact ⟨passC fs l[k], List.mem_map.2 ⟨_, List.getElem_mem hlt, rfl⟩, by rw [← h]; decide⟩
theorem all_yes {fs : List Fi} {l : List Cn} (h : ∀ x ∈ l, passC fs x = true) : ((l.map fun x => passC fs x).all fun b => b) = true := by
  rw [List.all_eq_true]
  intro b hb
  obtain ⟨x, hx, rfl⟩ := List.mem_map.1 hb
  exact h x hx
theorem any_yes {fs : List Fi} {l : List Cn} {k : Nat} (hlt : k < l.length) (h : true = passC fs l[k]) : ((l.map fun x => passC fs x).any fun b => b) = true := by
  rw [List.any_eq_true]
  exact ⟨passC fs l[k], List.mem_map.2 ⟨_, List.getElem_mem hlt, rfl⟩, by rw [← h]⟩
theorem any_no {fs : List Fi} {l : List Cn} (h : ∀ x ∈ l, passC fs x = false) : ((l.map fun x => passC fs x).any fun b => b) = false := by
  rw [List.any_eq_false]
  intro b hb
  obtain ⟨x, hx, rfl⟩ := List.mem_map.1 hb
  rw [h x hx]
  decide
theorem take_one {fs : List Fi} {l : List Cn} {k : Nat} {v : Bool} (hlt : k < l.length) (ha : ∀ x ∈ l.take k, passC fs x = v) (h : v = passC fs l[k]) : ∀ x ∈ l.take (k + 1), passC fs x = v := by
  intro x hx
  rw [List.take_succ_eq_append_getElem hlt] at hx
  rcases List.mem_append.1 hx with hx | hx
  · exact ha x hx
  · rw [List.mem_singleton] at hx
    rw [hx, ← h]
/-- Passes, called by itself. -/
def Calls8 (fs : List Fi) (x : Cn) : Prop := ∀ (A7 : Option Addr) (c7 : Nat) (id : Int) (A1 : Option Addr) (n1 c1 : Nat) (A2 : Option Addr) (c2 : Nat) (w : World), Kd.C k26 w A7 x.f5.length x.f5 → Kd.C k62 w A2 fs.length fs → fs.length ≤ c2 →
    Calls Tryd.prog 8 #[.agg #[.int .i64 x.f0, .string x.f1, .int .i64 x.f2.f0, .int .i64 x.f2.f1, .string x.f2.f2, .int .i64 x.f3, .int .i64 x.f4, .slice A7 x.f5.length c7], .agg #[.int .i64 id, .slice A1 n1 c1, .slice A2 fs.length c2]] w fun e w' => e = .returned (.bool (passC fs x)) ∧ Below w.heap.size w w'
set_option maxRecDepth 100000 in
set_option maxHeartbeats 1000000 in
theorem pass1 (fs : List Fi) (hbf : fs.length ≤ 1048576) (nm : ByteArray) (v0 v1 : Int) (v2 : ByteArray) (lo hi : Int) (l : List Cn) (hlen : l.length ≤ 1048576) : Calls8 fs (⟨1, nm, ⟨v0, v1, v2⟩, lo, hi, l⟩ : Cn) := by
  intro A7 c7 id A1 n1 c1 A2 c2 w hr hr2 hc2
  dsimp only at hr hr2 hc2 ⊢
  have HP : Hid (passC fs (⟨1, nm, ⟨v0, v1, v2⟩, lo, hi, l⟩ : Cn) = true) := Lib.hid (by rw [passC]; simp)
  rw [HP.out]
  have hV1 : ((w.alloc (.cells #[.int .i64 1, .string nm, .int .i64 v0, .int .i64 v1, .string v2, .int .i64 lo, .int .i64 hi, .slice A7 l.length c7] 26)).alloc (.cells #[.int .i64 id, .slice A1 n1 c1, .slice A2 fs.length c2] 30)).heap[w.heap.size]? = some (.cells #[.int .i64 1, .string nm, .int .i64 v0, .int .i64 v1, .string v2, .int .i64 lo, .int .i64 hi, .slice A7 l.length c7] 26 (0, 0)) := (Below.heap_alloc _ _ _ (by simp)).trans (World.alloc_heap_new w _)
  have hV2 : ((w.alloc (.cells #[.int .i64 1, .string nm, .int .i64 v0, .int .i64 v1, .string v2, .int .i64 lo, .int .i64 hi, .slice A7 l.length c7] 26)).alloc (.cells #[.int .i64 id, .slice A1 n1 c1, .slice A2 fs.length c2] 30)).heap[w.heap.size + 1]? = some (.cells #[.int .i64 id, .slice A1 n1 c1, .slice A2 fs.length c2] 30 (0, 0)) := by have h := World.alloc_heap_new (w.alloc (.cells #[.int .i64 1, .string nm, .int .i64 v0, .int .i64 v1, .string v2, .int .i64 lo, .int .i64 hi, .slice A7 l.length c7] 26)) (.cells #[.int .i64 id, .slice A1 n1 c1, .slice A2 fs.length c2] 30); rwa [World.size_alloc] at h
  have hb0 : Below w.heap.size w ((w.alloc (.cells #[.int .i64 1, .string nm, .int .i64 v0, .int .i64 v1, .string v2, .int .i64 lo, .int .i64 hi, .slice A7 l.length c7] 26)).alloc (.cells #[.int .i64 id, .slice A1 n1 c1, .slice A2 fs.length c2] 30)) := ((Below.refl _ w).alloc (Nat.le_refl _) _).alloc (by simp) _
  have hz2 : w.heap.size + 2 ≤ ((w.alloc (.cells #[.int .i64 1, .string nm, .int .i64 v0, .int .i64 v1, .string v2, .int .i64 lo, .int .i64 hi, .slice A7 l.length c7] 26)).alloc (.cells #[.int .i64 id, .slice A1 n1 c1, .slice A2 fs.length c2] 30)).heap.size := by simp
  go_enter Tryd.func8, Tryd.ntmps8
  go_upto_region 1 with (fail)
  generalize ((w.alloc (.cells #[.int .i64 1, .string nm, .int .i64 v0, .int .i64 v1, .string v2, .int .i64 lo, .int .i64 hi, .slice A7 l.length c7] 26)).alloc (.cells #[.int .i64 id, .slice A1 n1 c1, .slice A2 fs.length c2] 30)) = w2 at *
  have k0 := cell_of_blk hV1 (j := 0) rfl
  have k1 := cell_of_blk hV1 (j := 1) rfl
  have k2 := cell_of_blk hV1 (j := 2) rfl
  have k3 := cell_of_blk hV1 (j := 3) rfl
  have k4 := cell_of_blk hV1 (j := 4) rfl
  have k5 := cell_of_blk hV1 (j := 5) rfl
  have k6 := cell_of_blk hV1 (j := 6) rfl
  have k7 := cell_of_blk hV1 (j := 7) rfl
  have eo : ofV (⟨1, nm, ⟨v0, v1, v2⟩, lo, hi, l⟩ : Cn) A7 c7 = .iface 50 (.bool true) := by rfl
  have HR := Lib.hid (Kd.C_below hr hb0)
  have HR2 := Lib.hid (Kd.C_below hr2 hb0)
  have HB0 := Lib.hid hb0
  clear hb0 hr hr2
  go_upto_block 0 with (go_at_call 25; refine (of_calls (⟨1, nm, ⟨v0, v1, v2⟩, lo, hi, l⟩ : Cn) A7 c7 w2).mono ?_; rintro e w3 ⟨rfl, hB3⟩; rw [eo])
  have hq := (hB3.block (w.heap.size + 1) (by omega)).trans hV2
  have hz3 : w.heap.size + 2 ≤ w3.heap.size := Nat.le_trans hz2 hB3.size
  have HRa := Lib.hid (Kd.C_below HR.out hB3)
  have HRb := Lib.hid (Kd.C_below HR2.out hB3)
  have HB3 := Lib.hid (HB0.out.trans (hB3.mono (by omega)))
  clear k0 k1 k2 k3 k4 k5 k6 k7 hV1 hV2 hB3 eo HR HR2 HB0 hz2
  go_wp2_with fail

  go_ret
  exact ⟨rfl, HB3.out⟩
set_option maxRecDepth 100000 in
set_option maxHeartbeats 1000000 in
theorem pass2 (fs : List Fi) (hbf : fs.length ≤ 1048576) (nm : ByteArray) (v0 v1 : Int) (v2 : ByteArray) (lo hi : Int) (l : List Cn) (hlen : l.length ≤ 1048576) : Calls8 fs (⟨2, nm, ⟨v0, v1, v2⟩, lo, hi, l⟩ : Cn) := by
  intro A7 c7 id A1 n1 c1 A2 c2 w hr hr2 hc2
  dsimp only at hr hr2 hc2 ⊢
  have HP : Hid (passC fs (⟨2, nm, ⟨v0, v1, v2⟩, lo, hi, l⟩ : Cn) = false) := Lib.hid (by rw [passC]; simp)
  rw [HP.out]
  have hV1 : ((w.alloc (.cells #[.int .i64 2, .string nm, .int .i64 v0, .int .i64 v1, .string v2, .int .i64 lo, .int .i64 hi, .slice A7 l.length c7] 26)).alloc (.cells #[.int .i64 id, .slice A1 n1 c1, .slice A2 fs.length c2] 30)).heap[w.heap.size]? = some (.cells #[.int .i64 2, .string nm, .int .i64 v0, .int .i64 v1, .string v2, .int .i64 lo, .int .i64 hi, .slice A7 l.length c7] 26 (0, 0)) := (Below.heap_alloc _ _ _ (by simp)).trans (World.alloc_heap_new w _)
  have hV2 : ((w.alloc (.cells #[.int .i64 2, .string nm, .int .i64 v0, .int .i64 v1, .string v2, .int .i64 lo, .int .i64 hi, .slice A7 l.length c7] 26)).alloc (.cells #[.int .i64 id, .slice A1 n1 c1, .slice A2 fs.length c2] 30)).heap[w.heap.size + 1]? = some (.cells #[.int .i64 id, .slice A1 n1 c1, .slice A2 fs.length c2] 30 (0, 0)) := by have h := World.alloc_heap_new (w.alloc (.cells #[.int .i64 2, .string nm, .int .i64 v0, .int .i64 v1, .string v2, .int .i64 lo, .int .i64 hi, .slice A7 l.length c7] 26)) (.cells #[.int .i64 id, .slice A1 n1 c1, .slice A2 fs.length c2] 30); rwa [World.size_alloc] at h
  have hb0 : Below w.heap.size w ((w.alloc (.cells #[.int .i64 2, .string nm, .int .i64 v0, .int .i64 v1, .string v2, .int .i64 lo, .int .i64 hi, .slice A7 l.length c7] 26)).alloc (.cells #[.int .i64 id, .slice A1 n1 c1, .slice A2 fs.length c2] 30)) := ((Below.refl _ w).alloc (Nat.le_refl _) _).alloc (by simp) _
  have hz2 : w.heap.size + 2 ≤ ((w.alloc (.cells #[.int .i64 2, .string nm, .int .i64 v0, .int .i64 v1, .string v2, .int .i64 lo, .int .i64 hi, .slice A7 l.length c7] 26)).alloc (.cells #[.int .i64 id, .slice A1 n1 c1, .slice A2 fs.length c2] 30)).heap.size := by simp
  go_enter Tryd.func8, Tryd.ntmps8
  go_upto_region 1 with (fail)
  generalize ((w.alloc (.cells #[.int .i64 2, .string nm, .int .i64 v0, .int .i64 v1, .string v2, .int .i64 lo, .int .i64 hi, .slice A7 l.length c7] 26)).alloc (.cells #[.int .i64 id, .slice A1 n1 c1, .slice A2 fs.length c2] 30)) = w2 at *
  have k0 := cell_of_blk hV1 (j := 0) rfl
  have k1 := cell_of_blk hV1 (j := 1) rfl
  have k2 := cell_of_blk hV1 (j := 2) rfl
  have k3 := cell_of_blk hV1 (j := 3) rfl
  have k4 := cell_of_blk hV1 (j := 4) rfl
  have k5 := cell_of_blk hV1 (j := 5) rfl
  have k6 := cell_of_blk hV1 (j := 6) rfl
  have k7 := cell_of_blk hV1 (j := 7) rfl
  have eo : ofV (⟨2, nm, ⟨v0, v1, v2⟩, lo, hi, l⟩ : Cn) A7 c7 = .iface 50 (.bool false) := by rfl
  have HR := Lib.hid (Kd.C_below hr hb0)
  have HR2 := Lib.hid (Kd.C_below hr2 hb0)
  have HB0 := Lib.hid hb0
  clear hb0 hr hr2
  go_upto_block 0 with (go_at_call 25; refine (of_calls (⟨2, nm, ⟨v0, v1, v2⟩, lo, hi, l⟩ : Cn) A7 c7 w2).mono ?_; rintro e w3 ⟨rfl, hB3⟩; rw [eo])
  have hq := (hB3.block (w.heap.size + 1) (by omega)).trans hV2
  have hz3 : w.heap.size + 2 ≤ w3.heap.size := Nat.le_trans hz2 hB3.size
  have HRa := Lib.hid (Kd.C_below HR.out hB3)
  have HRb := Lib.hid (Kd.C_below HR2.out hB3)
  have HB3 := Lib.hid (HB0.out.trans (hB3.mono (by omega)))
  clear k0 k1 k2 k3 k4 k5 k6 k7 hV1 hV2 hB3 eo HR HR2 HB0 hz2
  go_wp2_with fail

  go_ret
  exact ⟨rfl, HB3.out⟩
set_option maxRecDepth 100000 in
set_option maxHeartbeats 1000000 in
theorem pass9 (fs : List Fi) (hbf : fs.length ≤ 1048576) (k : Int) (nm : ByteArray) (v0 v1 : Int) (v2 : ByteArray) (lo hi : Int) (l : List Cn) (hlen : l.length ≤ 1048576) (h1 : k ≠ 1) (h2 : k ≠ 2) (h3 : k ≠ 3) (h4 : k ≠ 4) (h5 : k ≠ 5) (h6 : k ≠ 6) (h7 : k ≠ 7) (h8 : k ≠ 8) : Calls8 fs (⟨k, nm, ⟨v0, v1, v2⟩, lo, hi, l⟩ : Cn) := by
  intro A7 c7 id A1 n1 c1 A2 c2 w hr hr2 hc2
  dsimp only at hr hr2 hc2 ⊢
  have HP : Hid (passC fs (⟨k, nm, ⟨v0, v1, v2⟩, lo, hi, l⟩ : Cn) = false) := Lib.hid (by rw [passC]; simp [h1, h2, h3, h4, h5, h6, h7, h8])
  rw [HP.out]
  have hV1 : ((w.alloc (.cells #[.int .i64 k, .string nm, .int .i64 v0, .int .i64 v1, .string v2, .int .i64 lo, .int .i64 hi, .slice A7 l.length c7] 26)).alloc (.cells #[.int .i64 id, .slice A1 n1 c1, .slice A2 fs.length c2] 30)).heap[w.heap.size]? = some (.cells #[.int .i64 k, .string nm, .int .i64 v0, .int .i64 v1, .string v2, .int .i64 lo, .int .i64 hi, .slice A7 l.length c7] 26 (0, 0)) := (Below.heap_alloc _ _ _ (by simp)).trans (World.alloc_heap_new w _)
  have hV2 : ((w.alloc (.cells #[.int .i64 k, .string nm, .int .i64 v0, .int .i64 v1, .string v2, .int .i64 lo, .int .i64 hi, .slice A7 l.length c7] 26)).alloc (.cells #[.int .i64 id, .slice A1 n1 c1, .slice A2 fs.length c2] 30)).heap[w.heap.size + 1]? = some (.cells #[.int .i64 id, .slice A1 n1 c1, .slice A2 fs.length c2] 30 (0, 0)) := by have h := World.alloc_heap_new (w.alloc (.cells #[.int .i64 k, .string nm, .int .i64 v0, .int .i64 v1, .string v2, .int .i64 lo, .int .i64 hi, .slice A7 l.length c7] 26)) (.cells #[.int .i64 id, .slice A1 n1 c1, .slice A2 fs.length c2] 30); rwa [World.size_alloc] at h
  have hb0 : Below w.heap.size w ((w.alloc (.cells #[.int .i64 k, .string nm, .int .i64 v0, .int .i64 v1, .string v2, .int .i64 lo, .int .i64 hi, .slice A7 l.length c7] 26)).alloc (.cells #[.int .i64 id, .slice A1 n1 c1, .slice A2 fs.length c2] 30)) := ((Below.refl _ w).alloc (Nat.le_refl _) _).alloc (by simp) _
  have hz2 : w.heap.size + 2 ≤ ((w.alloc (.cells #[.int .i64 k, .string nm, .int .i64 v0, .int .i64 v1, .string v2, .int .i64 lo, .int .i64 hi, .slice A7 l.length c7] 26)).alloc (.cells #[.int .i64 id, .slice A1 n1 c1, .slice A2 fs.length c2] 30)).heap.size := by simp
  go_enter Tryd.func8, Tryd.ntmps8
  go_upto_region 1 with (fail)
  generalize ((w.alloc (.cells #[.int .i64 k, .string nm, .int .i64 v0, .int .i64 v1, .string v2, .int .i64 lo, .int .i64 hi, .slice A7 l.length c7] 26)).alloc (.cells #[.int .i64 id, .slice A1 n1 c1, .slice A2 fs.length c2] 30)) = w2 at *
  have k0 := cell_of_blk hV1 (j := 0) rfl
  have k1 := cell_of_blk hV1 (j := 1) rfl
  have k2 := cell_of_blk hV1 (j := 2) rfl
  have k3 := cell_of_blk hV1 (j := 3) rfl
  have k4 := cell_of_blk hV1 (j := 4) rfl
  have k5 := cell_of_blk hV1 (j := 5) rfl
  have k6 := cell_of_blk hV1 (j := 6) rfl
  have k7 := cell_of_blk hV1 (j := 7) rfl
  have eo : ofV (⟨k, nm, ⟨v0, v1, v2⟩, lo, hi, l⟩ : Cn) A7 c7 = .nilIface := by unfold ofV; simp [h1, h2, h3, h4, h5, h6, h7, h8]
  have HR := Lib.hid (Kd.C_below hr hb0)
  have HR2 := Lib.hid (Kd.C_below hr2 hb0)
  have HB0 := Lib.hid hb0
  clear hb0 hr hr2
  go_upto_block 0 with (go_at_call 25; refine (of_calls (⟨k, nm, ⟨v0, v1, v2⟩, lo, hi, l⟩ : Cn) A7 c7 w2).mono ?_; rintro e w3 ⟨rfl, hB3⟩; rw [eo])
  have hq := (hB3.block (w.heap.size + 1) (by omega)).trans hV2
  have hz3 : w.heap.size + 2 ≤ w3.heap.size := Nat.le_trans hz2 hB3.size
  have HRa := Lib.hid (Kd.C_below HR.out hB3)
  have HRb := Lib.hid (Kd.C_below HR2.out hB3)
  have HB3 := Lib.hid (HB0.out.trans (hB3.mono (by omega)))
  clear k0 k1 k2 k3 k4 k5 k6 k7 hV1 hV2 hB3 eo HR HR2 HB0 hz2
  go_wp2_with fail

  go_ret
  exact ⟨rfl, HB3.out⟩
set_option maxRecDepth 100000 in
set_option maxHeartbeats 1000000 in
theorem pass3 (fs : List Fi) (hbf : fs.length ≤ 1048576) (nm : ByteArray) (v0 v1 : Int) (v2 : ByteArray) (lo hi : Int) (l : List Cn) (hlen : l.length ≤ 1048576) : Calls8 fs (⟨3, nm, ⟨v0, v1, v2⟩, lo, hi, l⟩ : Cn) := by
  intro A7 c7 id A1 n1 c1 A2 c2 w hr hr2 hc2
  dsimp only at hr hr2 hc2 ⊢
  have HP : Hid (passC fs (⟨3, nm, ⟨v0, v1, v2⟩, lo, hi, l⟩ : Cn) = (getV fs nm).isSome) := Lib.hid (by rw [passC]; simp)
  rw [HP.out]
  have hV1 : ((w.alloc (.cells #[.int .i64 3, .string nm, .int .i64 v0, .int .i64 v1, .string v2, .int .i64 lo, .int .i64 hi, .slice A7 l.length c7] 26)).alloc (.cells #[.int .i64 id, .slice A1 n1 c1, .slice A2 fs.length c2] 30)).heap[w.heap.size]? = some (.cells #[.int .i64 3, .string nm, .int .i64 v0, .int .i64 v1, .string v2, .int .i64 lo, .int .i64 hi, .slice A7 l.length c7] 26 (0, 0)) := (Below.heap_alloc _ _ _ (by simp)).trans (World.alloc_heap_new w _)
  have hV2 : ((w.alloc (.cells #[.int .i64 3, .string nm, .int .i64 v0, .int .i64 v1, .string v2, .int .i64 lo, .int .i64 hi, .slice A7 l.length c7] 26)).alloc (.cells #[.int .i64 id, .slice A1 n1 c1, .slice A2 fs.length c2] 30)).heap[w.heap.size + 1]? = some (.cells #[.int .i64 id, .slice A1 n1 c1, .slice A2 fs.length c2] 30 (0, 0)) := by have h := World.alloc_heap_new (w.alloc (.cells #[.int .i64 3, .string nm, .int .i64 v0, .int .i64 v1, .string v2, .int .i64 lo, .int .i64 hi, .slice A7 l.length c7] 26)) (.cells #[.int .i64 id, .slice A1 n1 c1, .slice A2 fs.length c2] 30); rwa [World.size_alloc] at h
  have hb0 : Below w.heap.size w ((w.alloc (.cells #[.int .i64 3, .string nm, .int .i64 v0, .int .i64 v1, .string v2, .int .i64 lo, .int .i64 hi, .slice A7 l.length c7] 26)).alloc (.cells #[.int .i64 id, .slice A1 n1 c1, .slice A2 fs.length c2] 30)) := ((Below.refl _ w).alloc (Nat.le_refl _) _).alloc (by simp) _
  have hz2 : w.heap.size + 2 ≤ ((w.alloc (.cells #[.int .i64 3, .string nm, .int .i64 v0, .int .i64 v1, .string v2, .int .i64 lo, .int .i64 hi, .slice A7 l.length c7] 26)).alloc (.cells #[.int .i64 id, .slice A1 n1 c1, .slice A2 fs.length c2] 30)).heap.size := by simp
  go_enter Tryd.func8, Tryd.ntmps8
  go_upto_region 1 with (fail)
  generalize ((w.alloc (.cells #[.int .i64 3, .string nm, .int .i64 v0, .int .i64 v1, .string v2, .int .i64 lo, .int .i64 hi, .slice A7 l.length c7] 26)).alloc (.cells #[.int .i64 id, .slice A1 n1 c1, .slice A2 fs.length c2] 30)) = w2 at *
  have k0 := cell_of_blk hV1 (j := 0) rfl
  have k1 := cell_of_blk hV1 (j := 1) rfl
  have k2 := cell_of_blk hV1 (j := 2) rfl
  have k3 := cell_of_blk hV1 (j := 3) rfl
  have k4 := cell_of_blk hV1 (j := 4) rfl
  have k5 := cell_of_blk hV1 (j := 5) rfl
  have k6 := cell_of_blk hV1 (j := 6) rfl
  have k7 := cell_of_blk hV1 (j := 7) rfl
  have eo : ofV (⟨3, nm, ⟨v0, v1, v2⟩, lo, hi, l⟩ : Cn) A7 c7 = .iface 51 (.string nm) := by rfl
  have HR := Lib.hid (Kd.C_below hr hb0)
  have HR2 := Lib.hid (Kd.C_below hr2 hb0)
  have HB0 := Lib.hid hb0
  clear hb0 hr hr2
  go_upto_block 0 with (go_at_call 25; refine (of_calls (⟨3, nm, ⟨v0, v1, v2⟩, lo, hi, l⟩ : Cn) A7 c7 w2).mono ?_; rintro e w3 ⟨rfl, hB3⟩; rw [eo])
  have hq := (hB3.block (w.heap.size + 1) (by omega)).trans hV2
  have hz3 : w.heap.size + 2 ≤ w3.heap.size := Nat.le_trans hz2 hB3.size
  have HRa := Lib.hid (Kd.C_below HR.out hB3)
  have HRb := Lib.hid (Kd.C_below HR2.out hB3)
  have HB3 := Lib.hid (HB0.out.trans (hB3.mono (by omega)))
  clear k0 k1 k2 k3 k4 k5 k6 k7 hV1 hV2 hB3 eo HR HR2 HB0 hz2
  have q0 := cell_of_blk hq (j := 0) rfl
  have q1 := cell_of_blk hq (j := 1) rfl
  have q2 := cell_of_blk hq (j := 2) rfl
  rcases eg : getV fs nm with _ | v
  · go_wp2_with (first | (go_at_call 26; refine (get_calls A2 c2 fs nm _ HRb.out hc2 (by omega)).mono ?_; rintro e w4 ⟨rfl, hB4⟩; rw [eg, vOf_none]))
    go_ret
    exact ⟨by rw [eg]; rfl, (HB3.out.trans (hB4.mono (by omega))).alloc (by have := hB4.size; omega) _⟩
  · go_wp2_with (first | (go_at_call 26; refine (get_calls A2 c2 fs nm _ HRb.out hc2 (by omega)).mono ?_; rintro e w4 ⟨rfl, hB4⟩; rw [eg, vOf_some]))
    go_ret
    exact ⟨by rw [eg]; rfl, (HB3.out.trans (hB4.mono (by omega))).alloc (by have := hB4.size; omega) _⟩
set_option maxRecDepth 100000 in
set_option maxHeartbeats 1000000 in
theorem pass4 (fs : List Fi) (hbf : fs.length ≤ 1048576) (nm : ByteArray) (v0 v1 : Int) (v2 : ByteArray) (lo hi : Int) (l : List Cn) (hlen : l.length ≤ 1048576) : Calls8 fs (⟨4, nm, ⟨v0, v1, v2⟩, lo, hi, l⟩ : Cn) := by
  intro A7 c7 id A1 n1 c1 A2 c2 w hr hr2 hc2
  dsimp only at hr hr2 hc2 ⊢
  have HP : Hid (passC fs (⟨4, nm, ⟨v0, v1, v2⟩, lo, hi, l⟩ : Cn) = isC (getV fs nm) ⟨v0, v1, v2⟩) := Lib.hid (by rw [passC]; simp)
  rw [HP.out]
  have hV1 : ((w.alloc (.cells #[.int .i64 4, .string nm, .int .i64 v0, .int .i64 v1, .string v2, .int .i64 lo, .int .i64 hi, .slice A7 l.length c7] 26)).alloc (.cells #[.int .i64 id, .slice A1 n1 c1, .slice A2 fs.length c2] 30)).heap[w.heap.size]? = some (.cells #[.int .i64 4, .string nm, .int .i64 v0, .int .i64 v1, .string v2, .int .i64 lo, .int .i64 hi, .slice A7 l.length c7] 26 (0, 0)) := (Below.heap_alloc _ _ _ (by simp)).trans (World.alloc_heap_new w _)
  have hV2 : ((w.alloc (.cells #[.int .i64 4, .string nm, .int .i64 v0, .int .i64 v1, .string v2, .int .i64 lo, .int .i64 hi, .slice A7 l.length c7] 26)).alloc (.cells #[.int .i64 id, .slice A1 n1 c1, .slice A2 fs.length c2] 30)).heap[w.heap.size + 1]? = some (.cells #[.int .i64 id, .slice A1 n1 c1, .slice A2 fs.length c2] 30 (0, 0)) := by have h := World.alloc_heap_new (w.alloc (.cells #[.int .i64 4, .string nm, .int .i64 v0, .int .i64 v1, .string v2, .int .i64 lo, .int .i64 hi, .slice A7 l.length c7] 26)) (.cells #[.int .i64 id, .slice A1 n1 c1, .slice A2 fs.length c2] 30); rwa [World.size_alloc] at h
  have hb0 : Below w.heap.size w ((w.alloc (.cells #[.int .i64 4, .string nm, .int .i64 v0, .int .i64 v1, .string v2, .int .i64 lo, .int .i64 hi, .slice A7 l.length c7] 26)).alloc (.cells #[.int .i64 id, .slice A1 n1 c1, .slice A2 fs.length c2] 30)) := ((Below.refl _ w).alloc (Nat.le_refl _) _).alloc (by simp) _
  have hz2 : w.heap.size + 2 ≤ ((w.alloc (.cells #[.int .i64 4, .string nm, .int .i64 v0, .int .i64 v1, .string v2, .int .i64 lo, .int .i64 hi, .slice A7 l.length c7] 26)).alloc (.cells #[.int .i64 id, .slice A1 n1 c1, .slice A2 fs.length c2] 30)).heap.size := by simp
  go_enter Tryd.func8, Tryd.ntmps8
  go_upto_region 1 with (fail)
  generalize ((w.alloc (.cells #[.int .i64 4, .string nm, .int .i64 v0, .int .i64 v1, .string v2, .int .i64 lo, .int .i64 hi, .slice A7 l.length c7] 26)).alloc (.cells #[.int .i64 id, .slice A1 n1 c1, .slice A2 fs.length c2] 30)) = w2 at *
  have k0 := cell_of_blk hV1 (j := 0) rfl
  have k1 := cell_of_blk hV1 (j := 1) rfl
  have k2 := cell_of_blk hV1 (j := 2) rfl
  have k3 := cell_of_blk hV1 (j := 3) rfl
  have k4 := cell_of_blk hV1 (j := 4) rfl
  have k5 := cell_of_blk hV1 (j := 5) rfl
  have k6 := cell_of_blk hV1 (j := 6) rfl
  have k7 := cell_of_blk hV1 (j := 7) rfl
  have eo : ofV (⟨4, nm, ⟨v0, v1, v2⟩, lo, hi, l⟩ : Cn) A7 c7 = .iface 55 (.agg #[.string nm, .int .i64 v0, .int .i64 v1, .string v2]) := by rfl
  have HR := Lib.hid (Kd.C_below hr hb0)
  have HR2 := Lib.hid (Kd.C_below hr2 hb0)
  have HB0 := Lib.hid hb0
  clear hb0 hr hr2
  go_upto_block 0 with (go_at_call 25; refine (of_calls (⟨4, nm, ⟨v0, v1, v2⟩, lo, hi, l⟩ : Cn) A7 c7 w2).mono ?_; rintro e w3 ⟨rfl, hB3⟩; rw [eo])
  have hq := (hB3.block (w.heap.size + 1) (by omega)).trans hV2
  have hz3 : w.heap.size + 2 ≤ w3.heap.size := Nat.le_trans hz2 hB3.size
  have HRa := Lib.hid (Kd.C_below HR.out hB3)
  have HRb := Lib.hid (Kd.C_below HR2.out hB3)
  have HB3 := Lib.hid (HB0.out.trans (hB3.mono (by omega)))
  clear k0 k1 k2 k3 k4 k5 k6 k7 hV1 hV2 hB3 eo HR HR2 HB0 hz2
  have q0 := cell_of_blk hq (j := 0) rfl
  have q1 := cell_of_blk hq (j := 1) rfl
  have q2 := cell_of_blk hq (j := 2) rfl
  go_upto_region 11 with (fail)
  have hb5 : Below w3.heap.size w3 (w3.alloc (.cells #[.string nm, .int .i64 v0, .int .i64 v1, .string v2] 55)) := (Below.refl _ _).alloc (Nat.le_refl _) _
  have hf5 := World.alloc_heap_new w3 (.cells #[.string nm, .int .i64 v0, .int .i64 v1, .string v2] 55)
  have hz5 : w3.heap.size < (w3.alloc (.cells #[.string nm, .int .i64 v0, .int .i64 v1, .string v2] 55)).heap.size := by simp
  generalize w3.alloc (.cells #[.string nm, .int .i64 v0, .int .i64 v1, .string v2] 55) = w5 at *
  replace q0 := pw_cell_below hb5 q0
  replace q1 := pw_cell_below hb5 q1
  replace q2 := pw_cell_below hb5 q2
  have e0 := cell_of_blk hf5 (j := 0) rfl
  have e1 := cell_of_blk hf5 (j := 1) rfl
  have e2 := cell_of_blk hf5 (j := 2) rfl
  have e3 := cell_of_blk hf5 (j := 3) rfl
  have HRc := Lib.hid (Kd.C_below HRb.out hb5)
  have HB5 := Lib.hid (HB3.out.trans (hb5.mono (by omega)))
  clear hf5 hb5 hq
  rcases eg : getV fs nm with _ | v
  · have E : isC (getV fs nm) ⟨v0, v1, v2⟩ = false := by rw [eg]; rfl
    go_wp2_with (first | (go_at_call 26; refine (get_calls A2 c2 fs nm _ HRc.out hc2 (by omega)).mono ?_; rintro e w4 ⟨rfl, hB4⟩; rw [eg, vOf_none]))
    go_ret
    exact ⟨by rw [E]; rfl, (HB5.out.trans (hB4.mono (by omega))).alloc (by have := hB4.size; omega) _⟩
  · go_upto_region 12 with (first | (go_at_call 26; refine (get_calls A2 c2 fs nm _ HRc.out hc2 (by omega)).mono ?_; rintro e w4 ⟨rfl, hB4⟩; rw [eg, vOf_some]))
    have hb6 : Below w5.heap.size w5 (w4.alloc (.cells #[.int .i64 v.f0, .int .i64 v.f1, .string v.f2] 23)) := hB4.alloc hB4.size _
    have hf6 := World.alloc_heap_new w4 (.cells #[.int .i64 v.f0, .int .i64 v.f1, .string v.f2] 23)
    generalize w4.alloc (.cells #[.int .i64 v.f0, .int .i64 v.f1, .string v.f2] 23) = w6 at *
    have g0 := cell_of_blk hf6 (j := 0) rfl
    have g1 := cell_of_blk hf6 (j := 1) rfl
    have g2 := cell_of_blk hf6 (j := 2) rfl
    replace e0 := pw_cell_below hb6 e0
    replace e1 := pw_cell_below hb6 e1
    replace e2 := pw_cell_below hb6 e2
    have HB6 := Lib.hid (HB5.out.trans (hb6.mono (by omega)))
    have HB6x := Lib.hid hb6
    clear hf6 hb6 hB4 q0 q1 q2
    replace e3 := pw_cell_below HB6x.out e3
    obtain ⟨z, hz⟩ : ∃ z, z = cmpV v ⟨v0, v1, v2⟩ := ⟨_, rfl⟩
    have E : isC (getV fs nm) ⟨v0, v1, v2⟩ = decide (z = 0) := by rw [eg, hz]; rfl
    have HZ := Lib.hid hz
    clear hz
    by_cases hz0 : z = 0
    · have z1 : (z == 0) = true := by simp [hz0]
      rw [decide_eq_true hz0] at E
      go_wp2_with (first | (go_at_call 27; refine (compare_calls v ⟨v0, v1, v2⟩ _).mono ?_; rintro e w8 ⟨rfl, q, os, rfl⟩; rw [← HZ.out]))
      go_ret
      exact ⟨by rw [E]; rfl, HB6.out.trans ((below_grow _ _ _).mono HB6.out.size)⟩
    · have z1 : (z == 0) = false := by simp [hz0]
      rw [decide_eq_false hz0] at E
      go_wp2_with (first | (go_at_call 27; refine (compare_calls v ⟨v0, v1, v2⟩ _).mono ?_; rintro e w8 ⟨rfl, q, os, rfl⟩; rw [← HZ.out]))
      go_ret
      exact ⟨by rw [E]; rfl, HB6.out.trans ((below_grow _ _ _).mono HB6.out.size)⟩
set_option maxRecDepth 100000 in
set_option maxHeartbeats 1000000 in
theorem pass5 (fs : List Fi) (hbf : fs.length ≤ 1048576) (nm : ByteArray) (v0 v1 : Int) (v2 : ByteArray) (lo hi : Int) (l : List Cn) (hlen : l.length ≤ 1048576) : Calls8 fs (⟨5, nm, ⟨v0, v1, v2⟩, lo, hi, l⟩ : Cn) := by
  intro A7 c7 id A1 n1 c1 A2 c2 w hr hr2 hc2
  dsimp only at hr hr2 hc2 ⊢
  have HP : Hid (passC fs (⟨5, nm, ⟨v0, v1, v2⟩, lo, hi, l⟩ : Cn) = inC (getV fs nm) lo hi) := Lib.hid (by rw [passC]; simp)
  rw [HP.out]
  have hV1 : ((w.alloc (.cells #[.int .i64 5, .string nm, .int .i64 v0, .int .i64 v1, .string v2, .int .i64 lo, .int .i64 hi, .slice A7 l.length c7] 26)).alloc (.cells #[.int .i64 id, .slice A1 n1 c1, .slice A2 fs.length c2] 30)).heap[w.heap.size]? = some (.cells #[.int .i64 5, .string nm, .int .i64 v0, .int .i64 v1, .string v2, .int .i64 lo, .int .i64 hi, .slice A7 l.length c7] 26 (0, 0)) := (Below.heap_alloc _ _ _ (by simp)).trans (World.alloc_heap_new w _)
  have hV2 : ((w.alloc (.cells #[.int .i64 5, .string nm, .int .i64 v0, .int .i64 v1, .string v2, .int .i64 lo, .int .i64 hi, .slice A7 l.length c7] 26)).alloc (.cells #[.int .i64 id, .slice A1 n1 c1, .slice A2 fs.length c2] 30)).heap[w.heap.size + 1]? = some (.cells #[.int .i64 id, .slice A1 n1 c1, .slice A2 fs.length c2] 30 (0, 0)) := by have h := World.alloc_heap_new (w.alloc (.cells #[.int .i64 5, .string nm, .int .i64 v0, .int .i64 v1, .string v2, .int .i64 lo, .int .i64 hi, .slice A7 l.length c7] 26)) (.cells #[.int .i64 id, .slice A1 n1 c1, .slice A2 fs.length c2] 30); rwa [World.size_alloc] at h
  have hb0 : Below w.heap.size w ((w.alloc (.cells #[.int .i64 5, .string nm, .int .i64 v0, .int .i64 v1, .string v2, .int .i64 lo, .int .i64 hi, .slice A7 l.length c7] 26)).alloc (.cells #[.int .i64 id, .slice A1 n1 c1, .slice A2 fs.length c2] 30)) := ((Below.refl _ w).alloc (Nat.le_refl _) _).alloc (by simp) _
  have hz2 : w.heap.size + 2 ≤ ((w.alloc (.cells #[.int .i64 5, .string nm, .int .i64 v0, .int .i64 v1, .string v2, .int .i64 lo, .int .i64 hi, .slice A7 l.length c7] 26)).alloc (.cells #[.int .i64 id, .slice A1 n1 c1, .slice A2 fs.length c2] 30)).heap.size := by simp
  go_enter Tryd.func8, Tryd.ntmps8
  go_upto_region 1 with (fail)
  generalize ((w.alloc (.cells #[.int .i64 5, .string nm, .int .i64 v0, .int .i64 v1, .string v2, .int .i64 lo, .int .i64 hi, .slice A7 l.length c7] 26)).alloc (.cells #[.int .i64 id, .slice A1 n1 c1, .slice A2 fs.length c2] 30)) = w2 at *
  have k0 := cell_of_blk hV1 (j := 0) rfl
  have k1 := cell_of_blk hV1 (j := 1) rfl
  have k2 := cell_of_blk hV1 (j := 2) rfl
  have k3 := cell_of_blk hV1 (j := 3) rfl
  have k4 := cell_of_blk hV1 (j := 4) rfl
  have k5 := cell_of_blk hV1 (j := 5) rfl
  have k6 := cell_of_blk hV1 (j := 6) rfl
  have k7 := cell_of_blk hV1 (j := 7) rfl
  have eo : ofV (⟨5, nm, ⟨v0, v1, v2⟩, lo, hi, l⟩ : Cn) A7 c7 = .iface 58 (.agg #[.string nm, .int .i64 lo, .int .i64 hi]) := by rfl
  have HR := Lib.hid (Kd.C_below hr hb0)
  have HR2 := Lib.hid (Kd.C_below hr2 hb0)
  have HB0 := Lib.hid hb0
  clear hb0 hr hr2
  go_upto_block 0 with (go_at_call 25; refine (of_calls (⟨5, nm, ⟨v0, v1, v2⟩, lo, hi, l⟩ : Cn) A7 c7 w2).mono ?_; rintro e w3 ⟨rfl, hB3⟩; rw [eo])
  have hq := (hB3.block (w.heap.size + 1) (by omega)).trans hV2
  have hz3 : w.heap.size + 2 ≤ w3.heap.size := Nat.le_trans hz2 hB3.size
  have HRa := Lib.hid (Kd.C_below HR.out hB3)
  have HRb := Lib.hid (Kd.C_below HR2.out hB3)
  have HB3 := Lib.hid (HB0.out.trans (hB3.mono (by omega)))
  clear k0 k1 k2 k3 k4 k5 k6 k7 hV1 hV2 hB3 eo HR HR2 HB0 hz2
  have q0 := cell_of_blk hq (j := 0) rfl
  have q1 := cell_of_blk hq (j := 1) rfl
  have q2 := cell_of_blk hq (j := 2) rfl
  go_upto_region 15 with (fail)
  have hb5 : Below w3.heap.size w3 (w3.alloc (.cells #[.string nm, .int .i64 lo, .int .i64 hi] 58)) := (Below.refl _ _).alloc (Nat.le_refl _) _
  have hf5 := World.alloc_heap_new w3 (.cells #[.string nm, .int .i64 lo, .int .i64 hi] 58)
  have hz5 : w3.heap.size < (w3.alloc (.cells #[.string nm, .int .i64 lo, .int .i64 hi] 58)).heap.size := by simp
  generalize w3.alloc (.cells #[.string nm, .int .i64 lo, .int .i64 hi] 58) = w5 at *
  replace q0 := pw_cell_below hb5 q0
  replace q1 := pw_cell_below hb5 q1
  replace q2 := pw_cell_below hb5 q2
  have e0 := cell_of_blk hf5 (j := 0) rfl
  have e1 := cell_of_blk hf5 (j := 1) rfl
  have e2 := cell_of_blk hf5 (j := 2) rfl
  have HRc := Lib.hid (Kd.C_below HRb.out hb5)
  have HB5 := Lib.hid (HB3.out.trans (hb5.mono (by omega)))
  clear hf5 hb5 hq
  rcases eg : getV fs nm with _ | v
  · have E : inC (getV fs nm) lo hi = false := by rw [eg]; rfl
    go_wp2_with (first | (go_at_call 26; refine (get_calls A2 c2 fs nm _ HRc.out hc2 (by omega)).mono ?_; rintro e w4 ⟨rfl, hB4⟩; rw [eg, vOf_none]))
    go_ret
    exact ⟨by rw [E]; rfl, (HB5.out.trans (hB4.mono (by omega))).alloc (by have := hB4.size; omega) _⟩
  · go_upto_region 16 with (first | (go_at_call 26; refine (get_calls A2 c2 fs nm _ HRc.out hc2 (by omega)).mono ?_; rintro e w4 ⟨rfl, hB4⟩; rw [eg, vOf_some]))
    have hb6 : Below w5.heap.size w5 (w4.alloc (.cells #[.int .i64 v.f0, .int .i64 v.f1, .string v.f2] 23)) := hB4.alloc hB4.size _
    have hf6 := World.alloc_heap_new w4 (.cells #[.int .i64 v.f0, .int .i64 v.f1, .string v.f2] 23)
    generalize w4.alloc (.cells #[.int .i64 v.f0, .int .i64 v.f1, .string v.f2] 23) = w6 at *
    have g0 := cell_of_blk hf6 (j := 0) rfl
    have g1 := cell_of_blk hf6 (j := 1) rfl
    have g2 := cell_of_blk hf6 (j := 2) rfl
    replace e0 := pw_cell_below hb6 e0
    replace e1 := pw_cell_below hb6 e1
    replace e2 := pw_cell_below hb6 e2
    have HB6 := Lib.hid (HB5.out.trans (hb6.mono (by omega)))
    clear hf6 hb6 hB4 q0 q1 q2
    by_cases a1 : v.f0 = 1
    · have b1 : (v.f0 == 1) = true := by simp [a1]
      by_cases a2 : lo ≤ v.f1
      · have b2 := eq_true a2
        have b2' : decide (lo ≤ v.f1) = true := decide_eq_true a2
        by_cases a3 : v.f1 ≤ hi
        · have b3 := eq_true a3
          have b3' : decide (v.f1 ≤ hi) = true := decide_eq_true a3
          have E : inC (getV fs nm) lo hi = true := by rw [eg]; unfold inC; simp [a1, a2, a3]
          go_wp2_with fail
          go_ret
          exact ⟨by first | (rw [E]; rfl) | (rw [← eg, E]; rfl), HB6.out⟩
        · have b3 := eq_false a3
          have b3' : decide (v.f1 ≤ hi) = false := decide_eq_false a3
          have E : inC (getV fs nm) lo hi = false := by rw [eg]; unfold inC; simp [a3]
          go_wp2_with fail
          go_ret
          exact ⟨by first | (rw [E]; rfl) | (rw [← eg, E]; rfl), HB6.out⟩
      · have b2 := eq_false a2
        have b2' : decide (lo ≤ v.f1) = false := decide_eq_false a2
        have E : inC (getV fs nm) lo hi = false := by rw [eg]; unfold inC; simp [a2]
        go_wp2_with fail
        go_ret
        exact ⟨by first | (rw [E]; rfl) | (rw [← eg, E]; rfl), HB6.out⟩
    · have b1 : (v.f0 == 1) = false := by simp [a1]
      have E : inC (getV fs nm) lo hi = false := by rw [eg]; unfold inC; simp [a1]
      go_wp2_with fail
      go_ret
      exact ⟨by first | (rw [E]; rfl) | (rw [← eg, E]; rfl), HB6.out⟩
set_option maxRecDepth 100000 in
set_option maxHeartbeats 1000000 in
theorem pass7 (fs : List Fi) (hbf : fs.length ≤ 1048576) (nm : ByteArray) (v0 v1 : Int) (v2 : ByteArray) (lo hi : Int) (l : List Cn) (hlen : l.length ≤ 1048576) (ih : ∀ x ∈ l, Calls8 fs x) : Calls8 fs (⟨7, nm, ⟨v0, v1, v2⟩, lo, hi, l⟩ : Cn) := by
  intro A7 c7 id A1 n1 c1 A2 c2 w hr hr2 hc2
  dsimp only at hr hr2 hc2 ⊢
  have HP : Hid (passC fs (⟨7, nm, ⟨v0, v1, v2⟩, lo, hi, l⟩ : Cn) = ((l.map fun x => passC fs x).all fun b => b)) := Lib.hid (by rw [passC]; simp)
  rw [HP.out]
  have hV1 : ((w.alloc (.cells #[.int .i64 7, .string nm, .int .i64 v0, .int .i64 v1, .string v2, .int .i64 lo, .int .i64 hi, .slice A7 l.length c7] 26)).alloc (.cells #[.int .i64 id, .slice A1 n1 c1, .slice A2 fs.length c2] 30)).heap[w.heap.size]? = some (.cells #[.int .i64 7, .string nm, .int .i64 v0, .int .i64 v1, .string v2, .int .i64 lo, .int .i64 hi, .slice A7 l.length c7] 26 (0, 0)) := (Below.heap_alloc _ _ _ (by simp)).trans (World.alloc_heap_new w _)
  have hV2 : ((w.alloc (.cells #[.int .i64 7, .string nm, .int .i64 v0, .int .i64 v1, .string v2, .int .i64 lo, .int .i64 hi, .slice A7 l.length c7] 26)).alloc (.cells #[.int .i64 id, .slice A1 n1 c1, .slice A2 fs.length c2] 30)).heap[w.heap.size + 1]? = some (.cells #[.int .i64 id, .slice A1 n1 c1, .slice A2 fs.length c2] 30 (0, 0)) := by have h := World.alloc_heap_new (w.alloc (.cells #[.int .i64 7, .string nm, .int .i64 v0, .int .i64 v1, .string v2, .int .i64 lo, .int .i64 hi, .slice A7 l.length c7] 26)) (.cells #[.int .i64 id, .slice A1 n1 c1, .slice A2 fs.length c2] 30); rwa [World.size_alloc] at h
  have hb0 : Below w.heap.size w ((w.alloc (.cells #[.int .i64 7, .string nm, .int .i64 v0, .int .i64 v1, .string v2, .int .i64 lo, .int .i64 hi, .slice A7 l.length c7] 26)).alloc (.cells #[.int .i64 id, .slice A1 n1 c1, .slice A2 fs.length c2] 30)) := ((Below.refl _ w).alloc (Nat.le_refl _) _).alloc (by simp) _
  have hz2 : w.heap.size + 2 ≤ ((w.alloc (.cells #[.int .i64 7, .string nm, .int .i64 v0, .int .i64 v1, .string v2, .int .i64 lo, .int .i64 hi, .slice A7 l.length c7] 26)).alloc (.cells #[.int .i64 id, .slice A1 n1 c1, .slice A2 fs.length c2] 30)).heap.size := by simp
  go_enter Tryd.func8, Tryd.ntmps8
  go_upto_region 1 with (fail)
  generalize ((w.alloc (.cells #[.int .i64 7, .string nm, .int .i64 v0, .int .i64 v1, .string v2, .int .i64 lo, .int .i64 hi, .slice A7 l.length c7] 26)).alloc (.cells #[.int .i64 id, .slice A1 n1 c1, .slice A2 fs.length c2] 30)) = w2 at *
  have k0 := cell_of_blk hV1 (j := 0) rfl
  have k1 := cell_of_blk hV1 (j := 1) rfl
  have k2 := cell_of_blk hV1 (j := 2) rfl
  have k3 := cell_of_blk hV1 (j := 3) rfl
  have k4 := cell_of_blk hV1 (j := 4) rfl
  have k5 := cell_of_blk hV1 (j := 5) rfl
  have k6 := cell_of_blk hV1 (j := 6) rfl
  have k7 := cell_of_blk hV1 (j := 7) rfl
  have eo : ofV (⟨7, nm, ⟨v0, v1, v2⟩, lo, hi, l⟩ : Cn) A7 c7 = .iface 60 (.slice A7 l.length c7) := by rfl
  have HR := Lib.hid (Kd.C_below hr hb0)
  have HR2 := Lib.hid (Kd.C_below hr2 hb0)
  have HB0 := Lib.hid hb0
  clear hb0 hr hr2
  go_upto_block 0 with (go_at_call 25; refine (of_calls (⟨7, nm, ⟨v0, v1, v2⟩, lo, hi, l⟩ : Cn) A7 c7 w2).mono ?_; rintro e w3 ⟨rfl, hB3⟩; rw [eo])
  have hq := (hB3.block (w.heap.size + 1) (by omega)).trans hV2
  have hz3 : w.heap.size + 2 ≤ w3.heap.size := Nat.le_trans hz2 hB3.size
  have HRa := Lib.hid (Kd.C_below HR.out hB3)
  have HRb := Lib.hid (Kd.C_below HR2.out hB3)
  have HB3 := Lib.hid (HB0.out.trans (hB3.mono (by omega)))
  clear k0 k1 k2 k3 k4 k5 k6 k7 hV1 hV2 hB3 eo HR HR2 HB0 hz2
  have q0 := cell_of_blk hq (j := 0) rfl
  have q1 := cell_of_blk hq (j := 1) rfl
  have q2 := cell_of_blk hq (j := 2) rfl
  go_wp2_with fail
  go_loopw [108] (fun s wr => ∃ k : Nat, k ≤ l.length ∧ s = .int .i64 k ∧ (∀ x ∈ l.take k, passC fs x = true) ∧ Below w3.heap.size w3 wr) (fun s _ => l.length - (intOf s).toNat)
  case atStart => exact ⟨0, Nat.zero_le _, rfl, by simp, Below.refl _ _⟩
  case round =>
    obtain ⟨k, hk, rfl, hall, hBr⟩ := hrel
    have HAL := Lib.hid hall
    have HBR := Lib.hid hBr
    by_cases hlt : k < l.length
    · have hlt' : decide ((k : Int) < (l.length : Int)) = true := decide_eq_true (by omega)
      obtain ⟨b0, o0, rfl, hb, hcs⟩ := conds_of_C HRa.out (by omega)
      obtain ⟨A', c', d0, d1, d2, d3, d4, d5, d6, d7, d8, d9⟩ := hcs k hlt
      have HD9 := Lib.hid d9
      clear hcs d9 hall
      have p1 := eq_true (show (0 : Int) ≤ (k : Int) by omega)
      have p2 := eq_true (show (k : Int) < (l.length : Int) by omega)
      have p3 : (k < l.length) = True := eq_true hlt
      replace d0 := (hBr.cell (p := ⟨b0, o0 + k * 8, none⟩) hb).trans d0
      replace d1 := (hBr.cell (p := ⟨b0, o0 + k * 8 + 1, none⟩) hb).trans d1
      replace d2 := (hBr.cell (p := ⟨b0, o0 + k * 8 + 2, none⟩) hb).trans d2
      replace d3 := (hBr.cell (p := ⟨b0, o0 + k * 8 + 3, none⟩) hb).trans d3
      replace d4 := (hBr.cell (p := ⟨b0, o0 + k * 8 + 4, none⟩) hb).trans d4
      replace d5 := (hBr.cell (p := ⟨b0, o0 + k * 8 + 5, none⟩) hb).trans d5
      replace d6 := (hBr.cell (p := ⟨b0, o0 + k * 8 + 6, none⟩) hb).trans d6
      replace d7 := (hBr.cell (p := ⟨b0, o0 + k * 8 + 7, none⟩) hb).trans d7
      have HX := Lib.hid (ih l[k] (List.getElem_mem hlt))
      obtain ⟨z, hz⟩ : ∃ z, z = passC fs l[k] := ⟨_, rfl⟩
      have HZ := Lib.hid hz
      clear hz
      have HE := Lib.hid (take_one (v := true) hlt HAL.out)
      have HN : Hid (false = passC fs l[k] → ((l.map fun x => passC fs x).all fun b => b) = false) := Lib.hid (all_no hlt)
      generalize l[k] = y at *
      clear hBr
      go_upto_region 25 with (fail)
      have hb5 : Below wr.heap.size wr (wr.alloc (.cells #[.int .i64 y.f0, .string y.f1, .int .i64 y.f2.f0, .int .i64 y.f2.f1, .string y.f2.f2, .int .i64 y.f3, .int .i64 y.f4, .slice A' y.f5.length c'] 26)) := (Below.refl _ _).alloc (Nat.le_refl _) _
      have hf5 := World.alloc_heap_new wr (.cells #[.int .i64 y.f0, .string y.f1, .int .i64 y.f2.f0, .int .i64 y.f2.f1, .string y.f2.f2, .int .i64 y.f3, .int .i64 y.f4, .slice A' y.f5.length c'] 26)
      have hz5 : wr.heap.size < (wr.alloc (.cells #[.int .i64 y.f0, .string y.f1, .int .i64 y.f2.f0, .int .i64 y.f2.f1, .string y.f2.f2, .int .i64 y.f3, .int .i64 y.f4, .slice A' y.f5.length c'] 26)).heap.size := by simp
      generalize wr.alloc (.cells #[.int .i64 y.f0, .string y.f1, .int .i64 y.f2.f0, .int .i64 y.f2.f1, .string y.f2.f2, .int .i64 y.f3, .int .i64 y.f4, .slice A' y.f5.length c'] 26) = w5 at *
      have hbw := HBR.out.trans (hb5.mono HBR.out.size)
      replace q0 := pw_cell_below hbw q0
      replace q1 := pw_cell_below hbw q1
      replace q2 := pw_cell_below hbw q2
      have e0 := cell_of_blk hf5 (j := 0) rfl
      have e1 := cell_of_blk hf5 (j := 1) rfl
      have e2 := cell_of_blk hf5 (j := 2) rfl
      have e3 := cell_of_blk hf5 (j := 3) rfl
      have e4 := cell_of_blk hf5 (j := 4) rfl
      have e5 := cell_of_blk hf5 (j := 5) rfl
      have e6 := cell_of_blk hf5 (j := 6) rfl
      have e7 := cell_of_blk hf5 (j := 7) rfl
      have HRc := Lib.hid (Kd.C_below HRb.out hbw)
      have HRx := Lib.hid (Kd.C_below HD9.out hbw)
      have HBW := Lib.hid hbw
      clear hf5 hb5 hbw d0 d1 d2 d3 d4 d5 d6 d7
      cases z
      · go_wp2_with (first | (go_at_call 8; refine (HX.out _ _ _ _ _ _ _ _ _ HRx.out HRc.out hc2).mono ?_; rintro e w6 ⟨rfl, hB6⟩; rw [← HZ.out]))
        go_ret
        exact ⟨by rw [HN.out HZ.out]; rfl, HB3.out.trans ((HBW.out.trans (hB6.mono HBW.out.size)).mono (by omega))⟩
      · go_wp2_with (first | (go_at_call 8; refine (HX.out _ _ _ _ _ _ _ _ _ HRx.out HRc.out hc2).mono ?_; rintro e w6 ⟨rfl, hB6⟩; rw [← HZ.out]))
        go_roundw
        case rel => exact ⟨k + 1, by omega, by go_num, HE.out HZ.out, HBW.out.trans (hB6.mono HBW.out.size)⟩
        case measure => simp [intOf]; omega
    · have hlt' : decide ((k : Int) < (l.length : Int)) = false := decide_eq_false (by omega)
      have E : ((l.map fun x => passC fs x).all fun b => b) = true := all_yes (by rw [List.take_of_length_le (by omega)] at hall; exact hall)
      clear hall hBr
      go_wp2_with fail
      go_ret
      exact ⟨by rw [E]; rfl, HB3.out.trans (HBR.out.mono (by omega))⟩
set_option maxRecDepth 100000 in
set_option maxHeartbeats 1000000 in
theorem pass8 (fs : List Fi) (hbf : fs.length ≤ 1048576) (nm : ByteArray) (v0 v1 : Int) (v2 : ByteArray) (lo hi : Int) (l : List Cn) (hlen : l.length ≤ 1048576) (ih : ∀ x ∈ l, Calls8 fs x) : Calls8 fs (⟨8, nm, ⟨v0, v1, v2⟩, lo, hi, l⟩ : Cn) := by
  intro A7 c7 id A1 n1 c1 A2 c2 w hr hr2 hc2
  dsimp only at hr hr2 hc2 ⊢
  have HP : Hid (passC fs (⟨8, nm, ⟨v0, v1, v2⟩, lo, hi, l⟩ : Cn) = ((l.map fun x => passC fs x).any fun b => b)) := Lib.hid (by rw [passC]; simp)
  rw [HP.out]
  have hV1 : ((w.alloc (.cells #[.int .i64 8, .string nm, .int .i64 v0, .int .i64 v1, .string v2, .int .i64 lo, .int .i64 hi, .slice A7 l.length c7] 26)).alloc (.cells #[.int .i64 id, .slice A1 n1 c1, .slice A2 fs.length c2] 30)).heap[w.heap.size]? = some (.cells #[.int .i64 8, .string nm, .int .i64 v0, .int .i64 v1, .string v2, .int .i64 lo, .int .i64 hi, .slice A7 l.length c7] 26 (0, 0)) := (Below.heap_alloc _ _ _ (by simp)).trans (World.alloc_heap_new w _)
  have hV2 : ((w.alloc (.cells #[.int .i64 8, .string nm, .int .i64 v0, .int .i64 v1, .string v2, .int .i64 lo, .int .i64 hi, .slice A7 l.length c7] 26)).alloc (.cells #[.int .i64 id, .slice A1 n1 c1, .slice A2 fs.length c2] 30)).heap[w.heap.size + 1]? = some (.cells #[.int .i64 id, .slice A1 n1 c1, .slice A2 fs.length c2] 30 (0, 0)) := by have h := World.alloc_heap_new (w.alloc (.cells #[.int .i64 8, .string nm, .int .i64 v0, .int .i64 v1, .string v2, .int .i64 lo, .int .i64 hi, .slice A7 l.length c7] 26)) (.cells #[.int .i64 id, .slice A1 n1 c1, .slice A2 fs.length c2] 30); rwa [World.size_alloc] at h
  have hb0 : Below w.heap.size w ((w.alloc (.cells #[.int .i64 8, .string nm, .int .i64 v0, .int .i64 v1, .string v2, .int .i64 lo, .int .i64 hi, .slice A7 l.length c7] 26)).alloc (.cells #[.int .i64 id, .slice A1 n1 c1, .slice A2 fs.length c2] 30)) := ((Below.refl _ w).alloc (Nat.le_refl _) _).alloc (by simp) _
  have hz2 : w.heap.size + 2 ≤ ((w.alloc (.cells #[.int .i64 8, .string nm, .int .i64 v0, .int .i64 v1, .string v2, .int .i64 lo, .int .i64 hi, .slice A7 l.length c7] 26)).alloc (.cells #[.int .i64 id, .slice A1 n1 c1, .slice A2 fs.length c2] 30)).heap.size := by simp
  go_enter Tryd.func8, Tryd.ntmps8
  go_upto_region 1 with (fail)
  generalize ((w.alloc (.cells #[.int .i64 8, .string nm, .int .i64 v0, .int .i64 v1, .string v2, .int .i64 lo, .int .i64 hi, .slice A7 l.length c7] 26)).alloc (.cells #[.int .i64 id, .slice A1 n1 c1, .slice A2 fs.length c2] 30)) = w2 at *
  have k0 := cell_of_blk hV1 (j := 0) rfl
  have k1 := cell_of_blk hV1 (j := 1) rfl
  have k2 := cell_of_blk hV1 (j := 2) rfl
  have k3 := cell_of_blk hV1 (j := 3) rfl
  have k4 := cell_of_blk hV1 (j := 4) rfl
  have k5 := cell_of_blk hV1 (j := 5) rfl
  have k6 := cell_of_blk hV1 (j := 6) rfl
  have k7 := cell_of_blk hV1 (j := 7) rfl
  have eo : ofV (⟨8, nm, ⟨v0, v1, v2⟩, lo, hi, l⟩ : Cn) A7 c7 = .iface 61 (.slice A7 l.length c7) := by rfl
  have HR := Lib.hid (Kd.C_below hr hb0)
  have HR2 := Lib.hid (Kd.C_below hr2 hb0)
  have HB0 := Lib.hid hb0
  clear hb0 hr hr2
  go_upto_block 0 with (go_at_call 25; refine (of_calls (⟨8, nm, ⟨v0, v1, v2⟩, lo, hi, l⟩ : Cn) A7 c7 w2).mono ?_; rintro e w3 ⟨rfl, hB3⟩; rw [eo])
  have hq := (hB3.block (w.heap.size + 1) (by omega)).trans hV2
  have hz3 : w.heap.size + 2 ≤ w3.heap.size := Nat.le_trans hz2 hB3.size
  have HRa := Lib.hid (Kd.C_below HR.out hB3)
  have HRb := Lib.hid (Kd.C_below HR2.out hB3)
  have HB3 := Lib.hid (HB0.out.trans (hB3.mono (by omega)))
  clear k0 k1 k2 k3 k4 k5 k6 k7 hV1 hV2 hB3 eo HR HR2 HB0 hz2
  have q0 := cell_of_blk hq (j := 0) rfl
  have q1 := cell_of_blk hq (j := 1) rfl
  have q2 := cell_of_blk hq (j := 2) rfl
  go_wp2_with fail
  go_loopw [122] (fun s wr => ∃ k : Nat, k ≤ l.length ∧ s = .int .i64 k ∧ (∀ x ∈ l.take k, passC fs x = false) ∧ Below w3.heap.size w3 wr) (fun s _ => l.length - (intOf s).toNat)
  case atStart => exact ⟨0, Nat.zero_le _, rfl, by simp, Below.refl _ _⟩
  case round =>
    obtain ⟨k, hk, rfl, hall, hBr⟩ := hrel
    have HAL := Lib.hid hall
    have HBR := Lib.hid hBr
    by_cases hlt : k < l.length
    · have hlt' : decide ((k : Int) < (l.length : Int)) = true := decide_eq_true (by omega)
      obtain ⟨b0, o0, rfl, hb, hcs⟩ := conds_of_C HRa.out (by omega)
      obtain ⟨A', c', d0, d1, d2, d3, d4, d5, d6, d7, d8, d9⟩ := hcs k hlt
      have HD9 := Lib.hid d9
      clear hcs d9 hall
      have p1 := eq_true (show (0 : Int) ≤ (k : Int) by omega)
      have p2 := eq_true (show (k : Int) < (l.length : Int) by omega)
      have p3 : (k < l.length) = True := eq_true hlt
      replace d0 := (hBr.cell (p := ⟨b0, o0 + k * 8, none⟩) hb).trans d0
      replace d1 := (hBr.cell (p := ⟨b0, o0 + k * 8 + 1, none⟩) hb).trans d1
      replace d2 := (hBr.cell (p := ⟨b0, o0 + k * 8 + 2, none⟩) hb).trans d2
      replace d3 := (hBr.cell (p := ⟨b0, o0 + k * 8 + 3, none⟩) hb).trans d3
      replace d4 := (hBr.cell (p := ⟨b0, o0 + k * 8 + 4, none⟩) hb).trans d4
      replace d5 := (hBr.cell (p := ⟨b0, o0 + k * 8 + 5, none⟩) hb).trans d5
      replace d6 := (hBr.cell (p := ⟨b0, o0 + k * 8 + 6, none⟩) hb).trans d6
      replace d7 := (hBr.cell (p := ⟨b0, o0 + k * 8 + 7, none⟩) hb).trans d7
      have HX := Lib.hid (ih l[k] (List.getElem_mem hlt))
      obtain ⟨z, hz⟩ : ∃ z, z = passC fs l[k] := ⟨_, rfl⟩
      have HZ := Lib.hid hz
      clear hz
      have HE := Lib.hid (take_one (v := false) hlt HAL.out)
      have HN : Hid (true = passC fs l[k] → ((l.map fun x => passC fs x).any fun b => b) = true) := Lib.hid (any_yes hlt)
      generalize l[k] = y at *
      clear hBr
      go_upto_region 34 with (fail)
      have hb5 : Below wr.heap.size wr (wr.alloc (.cells #[.int .i64 y.f0, .string y.f1, .int .i64 y.f2.f0, .int .i64 y.f2.f1, .string y.f2.f2, .int .i64 y.f3, .int .i64 y.f4, .slice A' y.f5.length c'] 26)) := (Below.refl _ _).alloc (Nat.le_refl _) _
      have hf5 := World.alloc_heap_new wr (.cells #[.int .i64 y.f0, .string y.f1, .int .i64 y.f2.f0, .int .i64 y.f2.f1, .string y.f2.f2, .int .i64 y.f3, .int .i64 y.f4, .slice A' y.f5.length c'] 26)
      have hz5 : wr.heap.size < (wr.alloc (.cells #[.int .i64 y.f0, .string y.f1, .int .i64 y.f2.f0, .int .i64 y.f2.f1, .string y.f2.f2, .int .i64 y.f3, .int .i64 y.f4, .slice A' y.f5.length c'] 26)).heap.size := by simp
      generalize wr.alloc (.cells #[.int .i64 y.f0, .string y.f1, .int .i64 y.f2.f0, .int .i64 y.f2.f1, .string y.f2.f2, .int .i64 y.f3, .int .i64 y.f4, .slice A' y.f5.length c'] 26) = w5 at *
      have hbw := HBR.out.trans (hb5.mono HBR.out.size)
      replace q0 := pw_cell_below hbw q0
      replace q1 := pw_cell_below hbw q1
      replace q2 := pw_cell_below hbw q2
      have e0 := cell_of_blk hf5 (j := 0) rfl
      have e1 := cell_of_blk hf5 (j := 1) rfl
      have e2 := cell_of_blk hf5 (j := 2) rfl
      have e3 := cell_of_blk hf5 (j := 3) rfl
      have e4 := cell_of_blk hf5 (j := 4) rfl
      have e5 := cell_of_blk hf5 (j := 5) rfl
      have e6 := cell_of_blk hf5 (j := 6) rfl
      have e7 := cell_of_blk hf5 (j := 7) rfl
      have HRc := Lib.hid (Kd.C_below HRb.out hbw)
      have HRx := Lib.hid (Kd.C_below HD9.out hbw)
      have HBW := Lib.hid hbw
      clear hf5 hb5 hbw d0 d1 d2 d3 d4 d5 d6 d7
      cases z
      · go_wp2_with (first | (go_at_call 8; refine (HX.out _ _ _ _ _ _ _ _ _ HRx.out HRc.out hc2).mono ?_; rintro e w6 ⟨rfl, hB6⟩; rw [← HZ.out]))
        go_roundw
        case rel => exact ⟨k + 1, by omega, by go_num, HE.out HZ.out, HBW.out.trans (hB6.mono HBW.out.size)⟩
        case measure => simp [intOf]; omega
      · go_wp2_with (first | (go_at_call 8; refine (HX.out _ _ _ _ _ _ _ _ _ HRx.out HRc.out hc2).mono ?_; rintro e w6 ⟨rfl, hB6⟩; rw [← HZ.out]))
        go_ret
        exact ⟨by rw [HN.out HZ.out]; rfl, HB3.out.trans ((HBW.out.trans (hB6.mono HBW.out.size)).mono (by omega))⟩
    · have hlt' : decide ((k : Int) < (l.length : Int)) = false := decide_eq_false (by omega)
      have E : ((l.map fun x => passC fs x).any fun b => b) = false := any_no (by rw [List.take_of_length_le (by omega)] at hall; exact hall)
      clear hall hBr
      go_wp2_with fail
      go_ret
      exact ⟨by rw [E]; rfl, HB3.out.trans (HBR.out.mono (by omega))⟩
set_option maxRecDepth 100000 in
set_option maxHeartbeats 1000000 in
theorem pass6 (fs : List Fi) (hbf : fs.length ≤ 1048576) (nm : ByteArray) (v0 v1 : Int) (v2 : ByteArray) (lo hi : Int) (l : List Cn) (hlen : l.length ≤ 1048576) (ih : ∀ x ∈ l, Calls8 fs x) : Calls8 fs (⟨6, nm, ⟨v0, v1, v2⟩, lo, hi, l⟩ : Cn) := by
  intro A7 c7 id A1 n1 c1 A2 c2 w hr hr2 hc2
  dsimp only at hr hr2 hc2 ⊢
  have HP : Hid (passC fs (⟨6, nm, ⟨v0, v1, v2⟩, lo, hi, l⟩ : Cn) = (decide (l.length = 1) && (l.map fun x => passC fs x).all fun b => !b)) := Lib.hid (by rw [passC]; simp)
  rw [HP.out]
  have hV1 : ((w.alloc (.cells #[.int .i64 6, .string nm, .int .i64 v0, .int .i64 v1, .string v2, .int .i64 lo, .int .i64 hi, .slice A7 l.length c7] 26)).alloc (.cells #[.int .i64 id, .slice A1 n1 c1, .slice A2 fs.length c2] 30)).heap[w.heap.size]? = some (.cells #[.int .i64 6, .string nm, .int .i64 v0, .int .i64 v1, .string v2, .int .i64 lo, .int .i64 hi, .slice A7 l.length c7] 26 (0, 0)) := (Below.heap_alloc _ _ _ (by simp)).trans (World.alloc_heap_new w _)
  have hV2 : ((w.alloc (.cells #[.int .i64 6, .string nm, .int .i64 v0, .int .i64 v1, .string v2, .int .i64 lo, .int .i64 hi, .slice A7 l.length c7] 26)).alloc (.cells #[.int .i64 id, .slice A1 n1 c1, .slice A2 fs.length c2] 30)).heap[w.heap.size + 1]? = some (.cells #[.int .i64 id, .slice A1 n1 c1, .slice A2 fs.length c2] 30 (0, 0)) := by have h := World.alloc_heap_new (w.alloc (.cells #[.int .i64 6, .string nm, .int .i64 v0, .int .i64 v1, .string v2, .int .i64 lo, .int .i64 hi, .slice A7 l.length c7] 26)) (.cells #[.int .i64 id, .slice A1 n1 c1, .slice A2 fs.length c2] 30); rwa [World.size_alloc] at h
  have hb0 : Below w.heap.size w ((w.alloc (.cells #[.int .i64 6, .string nm, .int .i64 v0, .int .i64 v1, .string v2, .int .i64 lo, .int .i64 hi, .slice A7 l.length c7] 26)).alloc (.cells #[.int .i64 id, .slice A1 n1 c1, .slice A2 fs.length c2] 30)) := ((Below.refl _ w).alloc (Nat.le_refl _) _).alloc (by simp) _
  have hz2 : w.heap.size + 2 ≤ ((w.alloc (.cells #[.int .i64 6, .string nm, .int .i64 v0, .int .i64 v1, .string v2, .int .i64 lo, .int .i64 hi, .slice A7 l.length c7] 26)).alloc (.cells #[.int .i64 id, .slice A1 n1 c1, .slice A2 fs.length c2] 30)).heap.size := by simp
  go_enter Tryd.func8, Tryd.ntmps8
  go_upto_region 1 with (fail)
  generalize ((w.alloc (.cells #[.int .i64 6, .string nm, .int .i64 v0, .int .i64 v1, .string v2, .int .i64 lo, .int .i64 hi, .slice A7 l.length c7] 26)).alloc (.cells #[.int .i64 id, .slice A1 n1 c1, .slice A2 fs.length c2] 30)) = w2 at *
  have k0 := cell_of_blk hV1 (j := 0) rfl
  have k1 := cell_of_blk hV1 (j := 1) rfl
  have k2 := cell_of_blk hV1 (j := 2) rfl
  have k3 := cell_of_blk hV1 (j := 3) rfl
  have k4 := cell_of_blk hV1 (j := 4) rfl
  have k5 := cell_of_blk hV1 (j := 5) rfl
  have k6 := cell_of_blk hV1 (j := 6) rfl
  have k7 := cell_of_blk hV1 (j := 7) rfl
  have eo : ofV (⟨6, nm, ⟨v0, v1, v2⟩, lo, hi, l⟩ : Cn) A7 c7 = .iface 59 (.slice A7 l.length c7) := by rfl
  have HR := Lib.hid (Kd.C_below hr hb0)
  have HR2 := Lib.hid (Kd.C_below hr2 hb0)
  have HB0 := Lib.hid hb0
  clear hb0 hr hr2
  go_upto_block 0 with (go_at_call 25; refine (of_calls (⟨6, nm, ⟨v0, v1, v2⟩, lo, hi, l⟩ : Cn) A7 c7 w2).mono ?_; rintro e w3 ⟨rfl, hB3⟩; rw [eo])
  have hq := (hB3.block (w.heap.size + 1) (by omega)).trans hV2
  have hz3 : w.heap.size + 2 ≤ w3.heap.size := Nat.le_trans hz2 hB3.size
  have HRa := Lib.hid (Kd.C_below HR.out hB3)
  have HRb := Lib.hid (Kd.C_below HR2.out hB3)
  have HB3 := Lib.hid (HB0.out.trans (hB3.mono (by omega)))
  clear k0 k1 k2 k3 k4 k5 k6 k7 hV1 hV2 hB3 eo HR HR2 HB0 hz2
  have q0 := cell_of_blk hq (j := 0) rfl
  have q1 := cell_of_blk hq (j := 1) rfl
  have q2 := cell_of_blk hq (j := 2) rfl
  by_cases hl1 : l.length = 1
  · obtain ⟨y, rfl⟩ := List.length_eq_one_iff.1 hl1
    obtain ⟨b0, o0, rfl, hb, hcs⟩ := conds_of_C HRa.out (by simp)
    obtain ⟨A', c', d0, d1, d2, d3, d4, d5, d6, d7, d8, d9⟩ := hcs 0 (by simp)
    simp only [List.getElem_cons_zero, Nat.zero_mul, Nat.add_zero] at d0 d1 d2 d3 d4 d5 d6 d7 d9
    have HRx := Lib.hid (Kd.C_drew d9)
    have HRc := Lib.hid (Kd.C_drew HRb.out)
    have HX := Lib.hid (ih y (by simp))
    have E : (decide ([y].length = 1) && ([y].map fun x => passC fs x).all fun b => !b) = !passC fs y := by simp
    obtain ⟨z, hz⟩ : ∃ z, z = passC fs y := ⟨_, rfl⟩
    have HZ := Lib.hid hz
    rw [← hz] at E
    have HEE := Lib.hid E
    have r0 : w3.drew.cell? _ = _ := d0
    have r1 : w3.drew.cell? _ = _ := d1
    have r2 : w3.drew.cell? _ = _ := d2
    have r3 : w3.drew.cell? _ = _ := d3
    have r4 : w3.drew.cell? _ = _ := d4
    have r5 : w3.drew.cell? _ = _ := d5
    have r6 : w3.drew.cell? _ = _ := d6
    have r7 : w3.drew.cell? _ = _ := d7
    have s0 : w3.drew.cell? _ = _ := q0
    have s1 : w3.drew.cell? _ = _ := q1
    have s2 : w3.drew.cell? _ = _ := q2
    clear hcs d9 hz E d8 hl1
    go_upto_region 19 with (fail)
    refine still_tail 8 (by kernel_rfl) (by kernel_rfl) ?_
    simp only [List.take_succ_cons, List.take_zero, List.drop_succ_cons, List.drop_zero]
    still_step
    still_step
    still_step
    still_step
    still_step
    still_step
    still_step
    still_step
    refine wpStill_nil ?_
    cases z
    · go_wp2_with (first | (go_at_call 8; refine (HX.out _ _ _ _ _ _ _ _ _ HRx.out HRc.out hc2).mono ?_; rintro e w6 ⟨rfl, hB6⟩; rw [← HZ.out]))
      go_ret
      exact ⟨by rw [HEE.out]; rfl, HB3.out.trans (((below_drew (Below.refl _ w3)).trans hB6).mono (by show _ ≤ w3.heap.size; omega))⟩
    · go_wp2_with (first | (go_at_call 8; refine (HX.out _ _ _ _ _ _ _ _ _ HRx.out HRc.out hc2).mono ?_; rintro e w6 ⟨rfl, hB6⟩; rw [← HZ.out]))
      go_ret
      exact ⟨by rw [HEE.out]; rfl, HB3.out.trans (((below_drew (Below.refl _ w3)).trans hB6).mono (by show _ ≤ w3.heap.size; omega))⟩
  · have b1 : ((l.length : Int) == 1) = false := by rw [beq_eq_false_iff_ne]; omega
    have E : (decide (l.length = 1) && (l.map fun x => passC fs x).all fun b => !b) = false := by rw [decide_eq_false hl1]; rfl
    go_wp2_with fail
    go_quiet (fail)
    go_wp2_with fail
    go_ret
    exact ⟨by rw [E]; rfl, HB3.out.trans ⟨rfl, rfl, rfl, by show _ ≤ w3.heap.size; omega, fun _ _ => rfl⟩⟩
theorem passes_all (fs : List Fi) (hbf : fs.length ≤ 1048576) {c : Cn} (hs : Small c) : Calls8 fs c := by
  induction hs with
  | mk c hlen hsub ih =>
    obtain ⟨k, nm, ⟨v0, v1, v2⟩, lo, hi, l⟩ := c
    rcases kinds k with rfl | rfl | rfl | rfl | rfl | rfl | rfl | rfl | ⟨h1, h2, h3, h4, h5, h6, h7, h8⟩
    · exact pass1 fs hbf nm v0 v1 v2 lo hi l hlen
    · exact pass2 fs hbf nm v0 v1 v2 lo hi l hlen
    · exact pass3 fs hbf nm v0 v1 v2 lo hi l hlen
    · exact pass4 fs hbf nm v0 v1 v2 lo hi l hlen
    · exact pass5 fs hbf nm v0 v1 v2 lo hi l hlen
    · exact pass6 fs hbf nm v0 v1 v2 lo hi l hlen ih
    · exact pass7 fs hbf nm v0 v1 v2 lo hi l hlen ih
    · exact pass8 fs hbf nm v0 v1 v2 lo hi l hlen ih
    · exact pass9 fs hbf k nm v0 v1 v2 lo hi l hlen h1 h2 h3 h4 h5 h6 h7 h8
theorem passes_calls (c : Cn) (A7 : Option Addr) (c7 : Nat) (id : Int) (A1 : Option Addr) (c1 : Nat) (vs : List S92) (A2 : Option Addr) (c2 : Nat) (fs : List Fi) (w : World) (hs : Small c) (hr : Kd.C k26 w A7 c.f5.length c.f5) (hc : c.f5.length ≤ c7) (hr2 : Kd.C k62 w A2 fs.length fs) (hc2 : fs.length ≤ c2) (hb : fs.length ≤ 1048576) :
    Calls Tryd.prog 8 #[.agg #[.int .i64 c.f0, .string c.f1, .int .i64 c.f2.f0, .int .i64 c.f2.f1, .string c.f2.f2, .int .i64 c.f3, .int .i64 c.f4, .slice A7 c.f5.length c7], .agg #[.int .i64 id, .slice A1 vs.length c1, .slice A2 fs.length c2]] w fun e w' => e = .returned (.bool (passC fs c)) ∧ Below w.heap.size w w' :=
  passes_all fs hb hs A7 c7 id A1 vs.length c1 A2 c2 w hr hr2 hc2
end Go.Proofs.YthaofmbjkdikbaaDoor.F

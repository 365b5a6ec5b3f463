/- Filter: what sure asks: filter.form, filter.fields and filter.Check at its three conditions. -/
import Derived.Test.YthaofmbjkdikbaaDoorFPw
import Derived.Test.YthaofmbjkdikbaaDoorPAllx10
import Derived.Test.YthaofmbjkdikbaaDoorPAllx6
import Derived.Test.YthaofmbjkdikbaaDoorPAllx11
import Derived.Test.YthaofmbjkdikbaaDoorPAllx9
namespace Go.Proofs.YthaofmbjkdikbaaDoor.F
open Go.RowKit Go.Lib Go.Sort Go.Shelf Go.Proofs.YthaofmbjkdikbaaDoorW.PrintWords Go.Proofs.YthaofmbjkdikbaaDoor.PAll Go.Proofs.YthaofmbjkdikbaaDoor.V
set_option linter.unusedVariables false
def sA : ByteArray := ⟨#[97]⟩
def sZ : ByteArray := ⟨#[122]⟩
def cIn : Cn := ⟨5, ⟨#[97]⟩, ⟨0, 0, ⟨#[]⟩⟩, 5, 9, []⟩
def cNone : Cn := ⟨6, ⟨#[]⟩, ⟨0, 0, ⟨#[]⟩⟩, 0, 0, [cIn]⟩
def cTwo : Cn := ⟨6, ⟨#[]⟩, ⟨0, 0, ⟨#[]⟩⟩, 0, 0, [cIn, cIn]⟩
def cHas : Cn := ⟨3, ⟨#[122]⟩, ⟨0, 0, ⟨#[]⟩⟩, 0, 0, []⟩
def cAgg (c : Cn) (A : Option Addr) (n : Nat) : Value := .agg #[.int .i64 c.f0, .string c.f1, .int .i64 c.f2.f0, .int .i64 c.f2.f1, .string c.f2.f2, .int .i64 c.f3, .int .i64 c.f4, .slice A c.f5.length n]
def sch7 : List S77 := [⟨⟨#[118]⟩, 2, 1⟩, ⟨⟨#[119]⟩, 1, 2⟩, ⟨⟨#[120]⟩, 2, 3⟩]
def sch9 : List S79 := [⟨⟨#[97]⟩, 1⟩, ⟨⟨#[98]⟩, 2⟩, ⟨⟨#[99]⟩, 3⟩]
theorem kindA : filter_kind.f 10 sch7 sch9 ⟨#[97]⟩ = some 1 := by decide +kernel
theorem kindZ : filter_kind.f 10 sch7 sch9 ⟨#[122]⟩ = some 0 := by decide +kernel
theorem kind_calls {r : Int} (s : ByteArray) (hk : filter_kind.f 10 sch7 sch9 s = some r) (A0 : Option Addr) (c0 : Nat) (A1 : Option Addr) (c1 : Nat) (w : World) (h0 : Kd.C k77 w A0 3 sch7) (hc0 : 3 ≤ c0) (h1 : Kd.C k79 w A1 3 sch9) (hc1 : 3 ≤ c1) :
    Calls Tryd.prog 47 #[.agg #[.slice A0 3 c0, .slice A1 3 c1], .string s] w fun e w' => e = .returned (.int .i64 r) ∧ Below w.heap.size w w' :=
  filter_kind.calls 10 A0 c0 sch7 A1 c1 sch9 s r w h0 hc0 h1 hc1 hk
theorem safe0_calls (x : Int) (h1 : -9007199254740991 ≤ x) (h2 : x ≤ 9007199254740991) (w : World) : Calls Tryd.prog 46 #[.int .i64 x] w fun e w' => e = .returned (.bool true) ∧ Drawn0 w w' :=
  (filter_safe.calls x true w (by unfold filter_safe.f; rw [if_pos (by omega), decide_eq_true h2])).mono (by rintro e w' ⟨rfl, h⟩; exact ⟨rfl, h⟩)
theorem nilC {w : World} : Kd.C k26 w none 0 [] := ⟨rfl, by decide, fun h => absurd h (by decide)⟩
set_option maxRecDepth 100000 in
set_option maxHeartbeats 1000000 in
theorem fields_in (A0 : Option Addr) (c0 : Nat) (A1 : Option Addr) (c1 : Nat) (w : World) (h0 : Kd.C k77 w A0 3 sch7) (hc0 : 3 ≤ c0) (h1 : Kd.C k79 w A1 3 sch9) (hc1 : 3 ≤ c1) :
    Calls Tryd.prog 42 #[cAgg cIn none 0, .agg #[.slice A0 3 c0, .slice A1 3 c1]] w fun e w' => e = .returned (.bool true) ∧ Below w.heap.size w w' := by
  show Calls Tryd.prog 42 #[.agg #[.int .i64 5, .string ⟨#[97]⟩, .int .i64 0, .int .i64 0, .string ⟨#[]⟩, .int .i64 5, .int .i64 9, .slice none 0 0], .agg #[.slice A0 3 c0, .slice A1 3 c1]] w _
  have hV1 : ((w.alloc (.cells #[.int .i64 5, .string ⟨#[97]⟩, .int .i64 0, .int .i64 0, .string ⟨#[]⟩, .int .i64 5, .int .i64 9, .slice none 0 0] 26)).alloc (.cells #[.slice A0 3 c0, .slice A1 3 c1] 66)).heap[w.heap.size]? = some (.cells #[.int .i64 5, .string ⟨#[97]⟩, .int .i64 0, .int .i64 0, .string ⟨#[]⟩, .int .i64 5, .int .i64 9, .slice none 0 0] 26 (0, 0)) := (Below.heap_alloc _ _ _ (by simp)).trans (World.alloc_heap_new w _)
  have hV2 : ((w.alloc (.cells #[.int .i64 5, .string ⟨#[97]⟩, .int .i64 0, .int .i64 0, .string ⟨#[]⟩, .int .i64 5, .int .i64 9, .slice none 0 0] 26)).alloc (.cells #[.slice A0 3 c0, .slice A1 3 c1] 66)).heap[w.heap.size + 1]? = some (.cells #[.slice A0 3 c0, .slice A1 3 c1] 66 (0, 0)) := by have h := World.alloc_heap_new (w.alloc (.cells #[.int .i64 5, .string ⟨#[97]⟩, .int .i64 0, .int .i64 0, .string ⟨#[]⟩, .int .i64 5, .int .i64 9, .slice none 0 0] 26)) (.cells #[.slice A0 3 c0, .slice A1 3 c1] 66); rwa [World.size_alloc] at h
  have hb0 : Below w.heap.size w ((w.alloc (.cells #[.int .i64 5, .string ⟨#[97]⟩, .int .i64 0, .int .i64 0, .string ⟨#[]⟩, .int .i64 5, .int .i64 9, .slice none 0 0] 26)).alloc (.cells #[.slice A0 3 c0, .slice A1 3 c1] 66)) := ((Below.refl _ w).alloc (Nat.le_refl _) _).alloc (by simp) _
  have hz2 : w.heap.size + 2 ≤ ((w.alloc (.cells #[.int .i64 5, .string ⟨#[97]⟩, .int .i64 0, .int .i64 0, .string ⟨#[]⟩, .int .i64 5, .int .i64 9, .slice none 0 0] 26)).alloc (.cells #[.slice A0 3 c0, .slice A1 3 c1] 66)).heap.size := by simp
  go_enter Tryd.func42, Tryd.ntmps42
  go_upto_region 1 with (fail)
  generalize ((w.alloc (.cells #[.int .i64 5, .string ⟨#[97]⟩, .int .i64 0, .int .i64 0, .string ⟨#[]⟩, .int .i64 5, .int .i64 9, .slice none 0 0] 26)).alloc (.cells #[.slice A0 3 c0, .slice A1 3 c1] 66)) = w2 at *
  have k0 := cell_of_blk hV1 (j := 0) rfl
  have k1 := cell_of_blk hV1 (j := 1) rfl
  have k2 := cell_of_blk hV1 (j := 2) rfl
  have k3 := cell_of_blk hV1 (j := 3) rfl
  have k4 := cell_of_blk hV1 (j := 4) rfl
  have k5 := cell_of_blk hV1 (j := 5) rfl
  have k6 := cell_of_blk hV1 (j := 6) rfl
  have k7 := cell_of_blk hV1 (j := 7) rfl
  have q0 := cell_of_blk hV2 (j := 0) rfl
  have q1 := cell_of_blk hV2 (j := 1) rfl
  have H0 := Lib.hid (Kd.C_below h0 hb0)
  have H1 := Lib.hid (Kd.C_below h1 hb0)
  have HB0 := Lib.hid hb0
  clear h0 h1 hb0
  go_wp2_with (first | (go_at_call 47; refine (kind_calls ⟨#[97]⟩ kindA A0 c0 A1 c1 _ H0.out hc0 H1.out hc1).mono ?_; rintro e w3 ⟨rfl, hB3⟩; have hV1n := (hB3.block w.heap.size (by omega)).trans hV1; have hV2n := (hB3.block (w.heap.size + 1) (by omega)).trans hV2; have hz3 : w.heap.size + 2 ≤ w3.heap.size := Nat.le_trans hz2 hB3.size; clear hV1 hV2 k0 k1 k2 k3 k4 k5 k6 k7 q0 q1; have hV1 := hV1n; have hV2 := hV2n; clear hV1n hV2n; have k0 := cell_of_blk hV1 (j := 0) rfl; have k1 := cell_of_blk hV1 (j := 1) rfl; have k2 := cell_of_blk hV1 (j := 2) rfl; have k3 := cell_of_blk hV1 (j := 3) rfl; have k4 := cell_of_blk hV1 (j := 4) rfl; have k5 := cell_of_blk hV1 (j := 5) rfl; have k6 := cell_of_blk hV1 (j := 6) rfl; have k7 := cell_of_blk hV1 (j := 7) rfl; have q0 := cell_of_blk hV2 (j := 0) rfl; have q1 := cell_of_blk hV2 (j := 1) rfl))
  go_ret
  exact ⟨rfl, HB0.out.trans (hB3.mono (by omega))⟩
set_option maxRecDepth 100000 in
set_option maxHeartbeats 1000000 in
theorem fields_has (A0 : Option Addr) (c0 : Nat) (A1 : Option Addr) (c1 : Nat) (w : World) (h0 : Kd.C k77 w A0 3 sch7) (hc0 : 3 ≤ c0) (h1 : Kd.C k79 w A1 3 sch9) (hc1 : 3 ≤ c1) :
    Calls Tryd.prog 42 #[cAgg cHas none 0, .agg #[.slice A0 3 c0, .slice A1 3 c1]] w fun e w' => e = .returned (.bool false) ∧ Below w.heap.size w w' := by
  show Calls Tryd.prog 42 #[.agg #[.int .i64 3, .string ⟨#[122]⟩, .int .i64 0, .int .i64 0, .string ⟨#[]⟩, .int .i64 0, .int .i64 0, .slice none 0 0], .agg #[.slice A0 3 c0, .slice A1 3 c1]] w _
  have hV1 : ((w.alloc (.cells #[.int .i64 3, .string ⟨#[122]⟩, .int .i64 0, .int .i64 0, .string ⟨#[]⟩, .int .i64 0, .int .i64 0, .slice none 0 0] 26)).alloc (.cells #[.slice A0 3 c0, .slice A1 3 c1] 66)).heap[w.heap.size]? = some (.cells #[.int .i64 3, .string ⟨#[122]⟩, .int .i64 0, .int .i64 0, .string ⟨#[]⟩, .int .i64 0, .int .i64 0, .slice none 0 0] 26 (0, 0)) := (Below.heap_alloc _ _ _ (by simp)).trans (World.alloc_heap_new w _)
  have hV2 : ((w.alloc (.cells #[.int .i64 3, .string ⟨#[122]⟩, .int .i64 0, .int .i64 0, .string ⟨#[]⟩, .int .i64 0, .int .i64 0, .slice none 0 0] 26)).alloc (.cells #[.slice A0 3 c0, .slice A1 3 c1] 66)).heap[w.heap.size + 1]? = some (.cells #[.slice A0 3 c0, .slice A1 3 c1] 66 (0, 0)) := by have h := World.alloc_heap_new (w.alloc (.cells #[.int .i64 3, .string ⟨#[122]⟩, .int .i64 0, .int .i64 0, .string ⟨#[]⟩, .int .i64 0, .int .i64 0, .slice none 0 0] 26)) (.cells #[.slice A0 3 c0, .slice A1 3 c1] 66); rwa [World.size_alloc] at h
  have hb0 : Below w.heap.size w ((w.alloc (.cells #[.int .i64 3, .string ⟨#[122]⟩, .int .i64 0, .int .i64 0, .string ⟨#[]⟩, .int .i64 0, .int .i64 0, .slice none 0 0] 26)).alloc (.cells #[.slice A0 3 c0, .slice A1 3 c1] 66)) := ((Below.refl _ w).alloc (Nat.le_refl _) _).alloc (by simp) _
  have hz2 : w.heap.size + 2 ≤ ((w.alloc (.cells #[.int .i64 3, .string ⟨#[122]⟩, .int .i64 0, .int .i64 0, .string ⟨#[]⟩, .int .i64 0, .int .i64 0, .slice none 0 0] 26)).alloc (.cells #[.slice A0 3 c0, .slice A1 3 c1] 66)).heap.size := by simp
  go_enter Tryd.func42, Tryd.ntmps42
  go_upto_region 1 with (fail)
  generalize ((w.alloc (.cells #[.int .i64 3, .string ⟨#[122]⟩, .int .i64 0, .int .i64 0, .string ⟨#[]⟩, .int .i64 0, .int .i64 0, .slice none 0 0] 26)).alloc (.cells #[.slice A0 3 c0, .slice A1 3 c1] 66)) = w2 at *
  have k0 := cell_of_blk hV1 (j := 0) rfl
  have k1 := cell_of_blk hV1 (j := 1) rfl
  have k2 := cell_of_blk hV1 (j := 2) rfl
  have k3 := cell_of_blk hV1 (j := 3) rfl
  have k4 := cell_of_blk hV1 (j := 4) rfl
  have k5 := cell_of_blk hV1 (j := 5) rfl
  have k6 := cell_of_blk hV1 (j := 6) rfl
  have k7 := cell_of_blk hV1 (j := 7) rfl
  have q0 := cell_of_blk hV2 (j := 0) rfl
  have q1 := cell_of_blk hV2 (j := 1) rfl
  have H0 := Lib.hid (Kd.C_below h0 hb0)
  have H1 := Lib.hid (Kd.C_below h1 hb0)
  have HB0 := Lib.hid hb0
  clear h0 h1 hb0
  go_wp2_with (first | (go_at_call 47; refine (kind_calls ⟨#[122]⟩ kindZ A0 c0 A1 c1 _ H0.out hc0 H1.out hc1).mono ?_; rintro e w3 ⟨rfl, hB3⟩; have hV1n := (hB3.block w.heap.size (by omega)).trans hV1; have hV2n := (hB3.block (w.heap.size + 1) (by omega)).trans hV2; have hz3 : w.heap.size + 2 ≤ w3.heap.size := Nat.le_trans hz2 hB3.size; clear hV1 hV2 k0 k1 k2 k3 k4 k5 k6 k7 q0 q1; have hV1 := hV1n; have hV2 := hV2n; clear hV1n hV2n; have k0 := cell_of_blk hV1 (j := 0) rfl; have k1 := cell_of_blk hV1 (j := 1) rfl; have k2 := cell_of_blk hV1 (j := 2) rfl; have k3 := cell_of_blk hV1 (j := 3) rfl; have k4 := cell_of_blk hV1 (j := 4) rfl; have k5 := cell_of_blk hV1 (j := 5) rfl; have k6 := cell_of_blk hV1 (j := 6) rfl; have k7 := cell_of_blk hV1 (j := 7) rfl; have q0 := cell_of_blk hV2 (j := 0) rfl; have q1 := cell_of_blk hV2 (j := 1) rfl))
  go_ret
  exact ⟨rfl, HB0.out.trans (hB3.mono (by omega))⟩
set_option maxRecDepth 100000 in
set_option maxHeartbeats 1000000 in
theorem form_two (A : Option Addr) (n : Nat) (w : World) : Calls Tryd.prog 41 #[cAgg cTwo A n] w fun e w' => e = .returned (.bool false) ∧ Below w.heap.size w w' := by
  show Calls Tryd.prog 41 #[.agg #[.int .i64 6, .string ⟨#[]⟩, .int .i64 0, .int .i64 0, .string ⟨#[]⟩, .int .i64 0, .int .i64 0, .slice A 2 n]] w _
  go_enter Tryd.func41, Tryd.ntmps41
  go_wp2_with fail
  go_ret
  exact ⟨rfl, ((Below.refl _ w).alloc (Nat.le_refl _) _).alloc (by simp) _⟩
set_option maxRecDepth 100000 in
set_option maxHeartbeats 1000000 in
theorem form_has (w : World) : Calls Tryd.prog 41 #[cAgg cHas none 0] w fun e w' => e = .returned (.bool true) ∧ Below w.heap.size w w' := by
  show Calls Tryd.prog 41 #[.agg #[.int .i64 3, .string ⟨#[122]⟩, .int .i64 0, .int .i64 0, .string ⟨#[]⟩, .int .i64 0, .int .i64 0, .slice none 0 0]] w _
  go_enter Tryd.func41, Tryd.ntmps41
  go_wp2_with fail
  go_ret
  exact ⟨rfl, ((Below.refl _ w).alloc (Nat.le_refl _) _).alloc (by simp) _⟩
set_option maxRecDepth 100000 in
set_option maxHeartbeats 1000000 in
theorem form_in (w : World) : Calls Tryd.prog 41 #[cAgg cIn none 0] w fun e w' => e = .returned (.bool true) ∧ Below w.heap.size w w' := by
  show Calls Tryd.prog 41 #[.agg #[.int .i64 5, .string ⟨#[97]⟩, .int .i64 0, .int .i64 0, .string ⟨#[]⟩, .int .i64 5, .int .i64 9, .slice none 0 0]] w _
  go_enter Tryd.func41, Tryd.ntmps41
  go_wp2_with (first | (go_at_call 46; refine (safe0_calls 5 (by decide) (by decide) _).mono ?_; rintro e w3 ⟨rfl, hw⟩; obtain ⟨⟨n3, rfl⟩⟩ := hw) | (go_at_call 46; refine (safe0_calls 9 (by decide) (by decide) _).mono ?_; rintro e w4 ⟨rfl, hw⟩; obtain ⟨⟨n4, rfl⟩⟩ := hw))
  go_region_law (fail)
  all_goals
    go_wp2_with fail
    go_ret
    refine ⟨rfl, ?_⟩
    iterate 3 refine Below.setCell (p := ⟨w.heap.size + 1, _, none⟩) ?_ (by show w.heap.size ≤ w.heap.size + 1; omega) _
    exact (((Below.refl _ w).alloc (Nat.le_refl _) _).alloc (by simp) _).trans ⟨rfl, rfl, rfl, by simp, fun _ _ => rfl⟩
set_option maxRecDepth 100000 in
set_option maxHeartbeats 1000000 in
theorem check_in (A0 : Option Addr) (c0 : Nat) (A1 : Option Addr) (c1 : Nat) (w : World) (h0 : Kd.C k77 w A0 3 sch7) (hc0 : 3 ≤ c0) (h1 : Kd.C k79 w A1 3 sch9) (hc1 : 3 ≤ c1) :
    Calls Tryd.prog 31 #[cAgg cIn none 0, .agg #[.slice A0 3 c0, .slice A1 3 c1]] w fun e w' => e = .returned (.int .i64 0) ∧ Below w.heap.size w w' := by
  show Calls Tryd.prog 31 #[.agg #[.int .i64 5, .string ⟨#[97]⟩, .int .i64 0, .int .i64 0, .string ⟨#[]⟩, .int .i64 5, .int .i64 9, .slice none 0 0], .agg #[.slice A0 3 c0, .slice A1 3 c1]] w _
  have hV1 : ((w.alloc (.cells #[.int .i64 5, .string ⟨#[97]⟩, .int .i64 0, .int .i64 0, .string ⟨#[]⟩, .int .i64 5, .int .i64 9, .slice none 0 0] 26)).alloc (.cells #[.slice A0 3 c0, .slice A1 3 c1] 66)).heap[w.heap.size]? = some (.cells #[.int .i64 5, .string ⟨#[97]⟩, .int .i64 0, .int .i64 0, .string ⟨#[]⟩, .int .i64 5, .int .i64 9, .slice none 0 0] 26 (0, 0)) := (Below.heap_alloc _ _ _ (by simp)).trans (World.alloc_heap_new w _)
  have hV2 : ((w.alloc (.cells #[.int .i64 5, .string ⟨#[97]⟩, .int .i64 0, .int .i64 0, .string ⟨#[]⟩, .int .i64 5, .int .i64 9, .slice none 0 0] 26)).alloc (.cells #[.slice A0 3 c0, .slice A1 3 c1] 66)).heap[w.heap.size + 1]? = some (.cells #[.slice A0 3 c0, .slice A1 3 c1] 66 (0, 0)) := by have h := World.alloc_heap_new (w.alloc (.cells #[.int .i64 5, .string ⟨#[97]⟩, .int .i64 0, .int .i64 0, .string ⟨#[]⟩, .int .i64 5, .int .i64 9, .slice none 0 0] 26)) (.cells #[.slice A0 3 c0, .slice A1 3 c1] 66); rwa [World.size_alloc] at h
  have hb0 : Below w.heap.size w ((w.alloc (.cells #[.int .i64 5, .string ⟨#[97]⟩, .int .i64 0, .int .i64 0, .string ⟨#[]⟩, .int .i64 5, .int .i64 9, .slice none 0 0] 26)).alloc (.cells #[.slice A0 3 c0, .slice A1 3 c1] 66)) := ((Below.refl _ w).alloc (Nat.le_refl _) _).alloc (by simp) _
  have hz2 : w.heap.size + 2 ≤ ((w.alloc (.cells #[.int .i64 5, .string ⟨#[97]⟩, .int .i64 0, .int .i64 0, .string ⟨#[]⟩, .int .i64 5, .int .i64 9, .slice none 0 0] 26)).alloc (.cells #[.slice A0 3 c0, .slice A1 3 c1] 66)).heap.size := by simp
  go_enter Tryd.func31, Tryd.ntmps31
  go_upto_block 0 with (fail)
  generalize ((w.alloc (.cells #[.int .i64 5, .string ⟨#[97]⟩, .int .i64 0, .int .i64 0, .string ⟨#[]⟩, .int .i64 5, .int .i64 9, .slice none 0 0] 26)).alloc (.cells #[.slice A0 3 c0, .slice A1 3 c1] 66)) = w2 at *
  have k0 := cell_of_blk hV1 (j := 0) rfl
  have k1 := cell_of_blk hV1 (j := 1) rfl
  have k2 := cell_of_blk hV1 (j := 2) rfl
  have k3 := cell_of_blk hV1 (j := 3) rfl
  have k4 := cell_of_blk hV1 (j := 4) rfl
  have k5 := cell_of_blk hV1 (j := 5) rfl
  have k6 := cell_of_blk hV1 (j := 6) rfl
  have k7 := cell_of_blk hV1 (j := 7) rfl
  have q0 := cell_of_blk hV2 (j := 0) rfl
  have q1 := cell_of_blk hV2 (j := 1) rfl
  have H0 := Lib.hid (Kd.C_below h0 hb0)
  have H1 := Lib.hid (Kd.C_below h1 hb0)
  have HC := Lib.hid (Kd.C_below nilC hb0)
  have HB0 := Lib.hid hb0
  have hz2b : w.heap.size ≤ w2.heap.size := by omega
  clear h0 h1 hb0
  have HS := Lib.hid (Below.refl w2.heap.size w2)
  have m1 : True := trivial
  go_wp2_with (first
    | (clear m1; go_at_call 10; refine (filter_Size.calls 10 5 ⟨#[97]⟩ 0 0 ⟨#[]⟩ 5 9 none 0 [] 1 _ HC.out (by decide) (by decide +kernel)).mono ?_; rintro e w3 ⟨rfl, hB3⟩; have HS3 := Lib.hid hB3; have hV1n := (hB3.block w.heap.size (by omega)).trans hV1; have hV2n := (hB3.block (w.heap.size + 1) (by omega)).trans hV2; replace hz2 : w.heap.size + 2 ≤ w3.heap.size := Nat.le_trans hz2 hB3.size; clear hV1 hV2 k0 k1 k2 k3 k4 k5 k6 k7 q0 q1; have hV1 := hV1n; have hV2 := hV2n; clear hV1n hV2n; have k0 := cell_of_blk hV1 (j := 0) rfl; have k1 := cell_of_blk hV1 (j := 1) rfl; have k2 := cell_of_blk hV1 (j := 2) rfl; have k3 := cell_of_blk hV1 (j := 3) rfl; have k4 := cell_of_blk hV1 (j := 4) rfl; have k5 := cell_of_blk hV1 (j := 5) rfl; have k6 := cell_of_blk hV1 (j := 6) rfl; have k7 := cell_of_blk hV1 (j := 7) rfl; have q0 := cell_of_blk hV2 (j := 0) rfl; have q1 := cell_of_blk hV2 (j := 1) rfl; have m2 : True := trivial)
    | (clear m2; go_at_call 12; refine (filter_Depth.calls 10 5 ⟨#[97]⟩ 0 0 ⟨#[]⟩ 5 9 none 0 [] 1 _ (Kd.C_below HC.out HS3.out) (by decide) (by decide +kernel)).mono ?_; rintro e w4 ⟨rfl, hB4⟩; have HS4 := Lib.hid (HS3.out.trans (hB4.mono HS3.out.size)); have hV1n := (hB4.block w.heap.size (by omega)).trans hV1; have hV2n := (hB4.block (w.heap.size + 1) (by omega)).trans hV2; replace hz2 : w.heap.size + 2 ≤ w4.heap.size := Nat.le_trans hz2 hB4.size; clear hV1 hV2 k0 k1 k2 k3 k4 k5 k6 k7 q0 q1; have hV1 := hV1n; have hV2 := hV2n; clear hV1n hV2n; have k0 := cell_of_blk hV1 (j := 0) rfl; have k1 := cell_of_blk hV1 (j := 1) rfl; have k2 := cell_of_blk hV1 (j := 2) rfl; have k3 := cell_of_blk hV1 (j := 3) rfl; have k4 := cell_of_blk hV1 (j := 4) rfl; have k5 := cell_of_blk hV1 (j := 5) rfl; have k6 := cell_of_blk hV1 (j := 6) rfl; have k7 := cell_of_blk hV1 (j := 7) rfl; have q0 := cell_of_blk hV2 (j := 0) rfl; have q1 := cell_of_blk hV2 (j := 1) rfl; have m3 : True := trivial)
    | (clear m3; go_at_call 41; refine Calls.mono (form_in _) ?_; rintro e w5 ⟨rfl, hB5⟩; have HS5 := Lib.hid (HS4.out.trans (hB5.mono HS4.out.size)); have hV1n := (hB5.block w.heap.size (by omega)).trans hV1; have hV2n := (hB5.block (w.heap.size + 1) (by omega)).trans hV2; replace hz2 : w.heap.size + 2 ≤ w5.heap.size := Nat.le_trans hz2 hB5.size; clear hV1 hV2 k0 k1 k2 k3 k4 k5 k6 k7 q0 q1; have hV1 := hV1n; have hV2 := hV2n; clear hV1n hV2n; have k0 := cell_of_blk hV1 (j := 0) rfl; have k1 := cell_of_blk hV1 (j := 1) rfl; have k2 := cell_of_blk hV1 (j := 2) rfl; have k3 := cell_of_blk hV1 (j := 3) rfl; have k4 := cell_of_blk hV1 (j := 4) rfl; have k5 := cell_of_blk hV1 (j := 5) rfl; have k6 := cell_of_blk hV1 (j := 6) rfl; have k7 := cell_of_blk hV1 (j := 7) rfl; have q0 := cell_of_blk hV2 (j := 0) rfl; have q1 := cell_of_blk hV2 (j := 1) rfl; have m4 : True := trivial)
    | (clear m4; go_at_call 42; refine Calls.mono (fields_in A0 c0 A1 c1 _ (Kd.C_below H0.out HS5.out) hc0 (Kd.C_below H1.out HS5.out) hc1) ?_; rintro e w6 ⟨rfl, hB6⟩; have HS6 := Lib.hid (HS5.out.trans (hB6.mono HS5.out.size))))
  go_ret
  exact ⟨rfl, HB0.out.trans (HS6.out.mono (by omega))⟩
set_option maxRecDepth 100000 in
set_option maxHeartbeats 1000000 in
theorem check_has (A0 : Option Addr) (c0 : Nat) (A1 : Option Addr) (c1 : Nat) (w : World) (h0 : Kd.C k77 w A0 3 sch7) (hc0 : 3 ≤ c0) (h1 : Kd.C k79 w A1 3 sch9) (hc1 : 3 ≤ c1) :
    Calls Tryd.prog 31 #[cAgg cHas none 0, .agg #[.slice A0 3 c0, .slice A1 3 c1]] w fun e w' => e = .returned (.int .i64 51) ∧ Below w.heap.size w w' := by
  show Calls Tryd.prog 31 #[.agg #[.int .i64 3, .string ⟨#[122]⟩, .int .i64 0, .int .i64 0, .string ⟨#[]⟩, .int .i64 0, .int .i64 0, .slice none 0 0], .agg #[.slice A0 3 c0, .slice A1 3 c1]] w _
  have hV1 : ((w.alloc (.cells #[.int .i64 3, .string ⟨#[122]⟩, .int .i64 0, .int .i64 0, .string ⟨#[]⟩, .int .i64 0, .int .i64 0, .slice none 0 0] 26)).alloc (.cells #[.slice A0 3 c0, .slice A1 3 c1] 66)).heap[w.heap.size]? = some (.cells #[.int .i64 3, .string ⟨#[122]⟩, .int .i64 0, .int .i64 0, .string ⟨#[]⟩, .int .i64 0, .int .i64 0, .slice none 0 0] 26 (0, 0)) := (Below.heap_alloc _ _ _ (by simp)).trans (World.alloc_heap_new w _)
  have hV2 : ((w.alloc (.cells #[.int .i64 3, .string ⟨#[122]⟩, .int .i64 0, .int .i64 0, .string ⟨#[]⟩, .int .i64 0, .int .i64 0, .slice none 0 0] 26)).alloc (.cells #[.slice A0 3 c0, .slice A1 3 c1] 66)).heap[w.heap.size + 1]? = some (.cells #[.slice A0 3 c0, .slice A1 3 c1] 66 (0, 0)) := by have h := World.alloc_heap_new (w.alloc (.cells #[.int .i64 3, .string ⟨#[122]⟩, .int .i64 0, .int .i64 0, .string ⟨#[]⟩, .int .i64 0, .int .i64 0, .slice none 0 0] 26)) (.cells #[.slice A0 3 c0, .slice A1 3 c1] 66); rwa [World.size_alloc] at h
  have hb0 : Below w.heap.size w ((w.alloc (.cells #[.int .i64 3, .string ⟨#[122]⟩, .int .i64 0, .int .i64 0, .string ⟨#[]⟩, .int .i64 0, .int .i64 0, .slice none 0 0] 26)).alloc (.cells #[.slice A0 3 c0, .slice A1 3 c1] 66)) := ((Below.refl _ w).alloc (Nat.le_refl _) _).alloc (by simp) _
  have hz2 : w.heap.size + 2 ≤ ((w.alloc (.cells #[.int .i64 3, .string ⟨#[122]⟩, .int .i64 0, .int .i64 0, .string ⟨#[]⟩, .int .i64 0, .int .i64 0, .slice none 0 0] 26)).alloc (.cells #[.slice A0 3 c0, .slice A1 3 c1] 66)).heap.size := by simp
  go_enter Tryd.func31, Tryd.ntmps31
  go_upto_block 0 with (fail)
  generalize ((w.alloc (.cells #[.int .i64 3, .string ⟨#[122]⟩, .int .i64 0, .int .i64 0, .string ⟨#[]⟩, .int .i64 0, .int .i64 0, .slice none 0 0] 26)).alloc (.cells #[.slice A0 3 c0, .slice A1 3 c1] 66)) = w2 at *
  have k0 := cell_of_blk hV1 (j := 0) rfl
  have k1 := cell_of_blk hV1 (j := 1) rfl
  have k2 := cell_of_blk hV1 (j := 2) rfl
  have k3 := cell_of_blk hV1 (j := 3) rfl
  have k4 := cell_of_blk hV1 (j := 4) rfl
  have k5 := cell_of_blk hV1 (j := 5) rfl
  have k6 := cell_of_blk hV1 (j := 6) rfl
  have k7 := cell_of_blk hV1 (j := 7) rfl
  have q0 := cell_of_blk hV2 (j := 0) rfl
  have q1 := cell_of_blk hV2 (j := 1) rfl
  have H0 := Lib.hid (Kd.C_below h0 hb0)
  have H1 := Lib.hid (Kd.C_below h1 hb0)
  have HC := Lib.hid (Kd.C_below nilC hb0)
  have HB0 := Lib.hid hb0
  have hz2b : w.heap.size ≤ w2.heap.size := by omega
  clear h0 h1 hb0
  have HS := Lib.hid (Below.refl w2.heap.size w2)
  have m1 : True := trivial
  go_wp2_with (first
    | (clear m1; go_at_call 10; refine (filter_Size.calls 10 3 ⟨#[122]⟩ 0 0 ⟨#[]⟩ 0 0 none 0 [] 1 _ HC.out (by decide) (by decide +kernel)).mono ?_; rintro e w3 ⟨rfl, hB3⟩; have HS3 := Lib.hid hB3; have hV1n := (hB3.block w.heap.size (by omega)).trans hV1; have hV2n := (hB3.block (w.heap.size + 1) (by omega)).trans hV2; replace hz2 : w.heap.size + 2 ≤ w3.heap.size := Nat.le_trans hz2 hB3.size; clear hV1 hV2 k0 k1 k2 k3 k4 k5 k6 k7 q0 q1; have hV1 := hV1n; have hV2 := hV2n; clear hV1n hV2n; have k0 := cell_of_blk hV1 (j := 0) rfl; have k1 := cell_of_blk hV1 (j := 1) rfl; have k2 := cell_of_blk hV1 (j := 2) rfl; have k3 := cell_of_blk hV1 (j := 3) rfl; have k4 := cell_of_blk hV1 (j := 4) rfl; have k5 := cell_of_blk hV1 (j := 5) rfl; have k6 := cell_of_blk hV1 (j := 6) rfl; have k7 := cell_of_blk hV1 (j := 7) rfl; have q0 := cell_of_blk hV2 (j := 0) rfl; have q1 := cell_of_blk hV2 (j := 1) rfl; have m2 : True := trivial)
    | (clear m2; go_at_call 12; refine (filter_Depth.calls 10 3 ⟨#[122]⟩ 0 0 ⟨#[]⟩ 0 0 none 0 [] 1 _ (Kd.C_below HC.out HS3.out) (by decide) (by decide +kernel)).mono ?_; rintro e w4 ⟨rfl, hB4⟩; have HS4 := Lib.hid (HS3.out.trans (hB4.mono HS3.out.size)); have hV1n := (hB4.block w.heap.size (by omega)).trans hV1; have hV2n := (hB4.block (w.heap.size + 1) (by omega)).trans hV2; replace hz2 : w.heap.size + 2 ≤ w4.heap.size := Nat.le_trans hz2 hB4.size; clear hV1 hV2 k0 k1 k2 k3 k4 k5 k6 k7 q0 q1; have hV1 := hV1n; have hV2 := hV2n; clear hV1n hV2n; have k0 := cell_of_blk hV1 (j := 0) rfl; have k1 := cell_of_blk hV1 (j := 1) rfl; have k2 := cell_of_blk hV1 (j := 2) rfl; have k3 := cell_of_blk hV1 (j := 3) rfl; have k4 := cell_of_blk hV1 (j := 4) rfl; have k5 := cell_of_blk hV1 (j := 5) rfl; have k6 := cell_of_blk hV1 (j := 6) rfl; have k7 := cell_of_blk hV1 (j := 7) rfl; have q0 := cell_of_blk hV2 (j := 0) rfl; have q1 := cell_of_blk hV2 (j := 1) rfl; have m3 : True := trivial)
    | (clear m3; go_at_call 41; refine Calls.mono (form_has _) ?_; rintro e w5 ⟨rfl, hB5⟩; have HS5 := Lib.hid (HS4.out.trans (hB5.mono HS4.out.size)); have hV1n := (hB5.block w.heap.size (by omega)).trans hV1; have hV2n := (hB5.block (w.heap.size + 1) (by omega)).trans hV2; replace hz2 : w.heap.size + 2 ≤ w5.heap.size := Nat.le_trans hz2 hB5.size; clear hV1 hV2 k0 k1 k2 k3 k4 k5 k6 k7 q0 q1; have hV1 := hV1n; have hV2 := hV2n; clear hV1n hV2n; have k0 := cell_of_blk hV1 (j := 0) rfl; have k1 := cell_of_blk hV1 (j := 1) rfl; have k2 := cell_of_blk hV1 (j := 2) rfl; have k3 := cell_of_blk hV1 (j := 3) rfl; have k4 := cell_of_blk hV1 (j := 4) rfl; have k5 := cell_of_blk hV1 (j := 5) rfl; have k6 := cell_of_blk hV1 (j := 6) rfl; have k7 := cell_of_blk hV1 (j := 7) rfl; have q0 := cell_of_blk hV2 (j := 0) rfl; have q1 := cell_of_blk hV2 (j := 1) rfl; have m4 : True := trivial)
    | (clear m4; go_at_call 42; refine Calls.mono (fields_has A0 c0 A1 c1 _ (Kd.C_below H0.out HS5.out) hc0 (Kd.C_below H1.out HS5.out) hc1) ?_; rintro e w6 ⟨rfl, hB6⟩; have HS6 := Lib.hid (HS5.out.trans (hB6.mono HS5.out.size))))
  go_ret
  exact ⟨rfl, HB0.out.trans (HS6.out.mono (by omega))⟩
set_option maxRecDepth 100000 in
set_option maxHeartbeats 1000000 in
theorem check_two (A : Option Addr) (n : Nat) (hn : 2 ≤ n) (A0 : Option Addr) (c0 : Nat) (A1 : Option Addr) (c1 : Nat) (w : World) (hC : Kd.C k26 w A 2 [cIn, cIn]) (h0 : Kd.C k77 w A0 3 sch7) (hc0 : 3 ≤ c0) (h1 : Kd.C k79 w A1 3 sch9) (hc1 : 3 ≤ c1) :
    Calls Tryd.prog 31 #[cAgg cTwo A n, .agg #[.slice A0 3 c0, .slice A1 3 c1]] w fun e w' => e = .returned (.int .i64 160) ∧ Below w.heap.size w w' := by
  show Calls Tryd.prog 31 #[.agg #[.int .i64 6, .string ⟨#[]⟩, .int .i64 0, .int .i64 0, .string ⟨#[]⟩, .int .i64 0, .int .i64 0, .slice A 2 n], .agg #[.slice A0 3 c0, .slice A1 3 c1]] w _
  have hV1 : ((w.alloc (.cells #[.int .i64 6, .string ⟨#[]⟩, .int .i64 0, .int .i64 0, .string ⟨#[]⟩, .int .i64 0, .int .i64 0, .slice A 2 n] 26)).alloc (.cells #[.slice A0 3 c0, .slice A1 3 c1] 66)).heap[w.heap.size]? = some (.cells #[.int .i64 6, .string ⟨#[]⟩, .int .i64 0, .int .i64 0, .string ⟨#[]⟩, .int .i64 0, .int .i64 0, .slice A 2 n] 26 (0, 0)) := (Below.heap_alloc _ _ _ (by simp)).trans (World.alloc_heap_new w _)
  have hV2 : ((w.alloc (.cells #[.int .i64 6, .string ⟨#[]⟩, .int .i64 0, .int .i64 0, .string ⟨#[]⟩, .int .i64 0, .int .i64 0, .slice A 2 n] 26)).alloc (.cells #[.slice A0 3 c0, .slice A1 3 c1] 66)).heap[w.heap.size + 1]? = some (.cells #[.slice A0 3 c0, .slice A1 3 c1] 66 (0, 0)) := by have h := World.alloc_heap_new (w.alloc (.cells #[.int .i64 6, .string ⟨#[]⟩, .int .i64 0, .int .i64 0, .string ⟨#[]⟩, .int .i64 0, .int .i64 0, .slice A 2 n] 26)) (.cells #[.slice A0 3 c0, .slice A1 3 c1] 66); rwa [World.size_alloc] at h
  have hb0 : Below w.heap.size w ((w.alloc (.cells #[.int .i64 6, .string ⟨#[]⟩, .int .i64 0, .int .i64 0, .string ⟨#[]⟩, .int .i64 0, .int .i64 0, .slice A 2 n] 26)).alloc (.cells #[.slice A0 3 c0, .slice A1 3 c1] 66)) := ((Below.refl _ w).alloc (Nat.le_refl _) _).alloc (by simp) _
  have hz2 : w.heap.size + 2 ≤ ((w.alloc (.cells #[.int .i64 6, .string ⟨#[]⟩, .int .i64 0, .int .i64 0, .string ⟨#[]⟩, .int .i64 0, .int .i64 0, .slice A 2 n] 26)).alloc (.cells #[.slice A0 3 c0, .slice A1 3 c1] 66)).heap.size := by simp
  go_enter Tryd.func31, Tryd.ntmps31
  go_upto_block 0 with (fail)
  generalize ((w.alloc (.cells #[.int .i64 6, .string ⟨#[]⟩, .int .i64 0, .int .i64 0, .string ⟨#[]⟩, .int .i64 0, .int .i64 0, .slice A 2 n] 26)).alloc (.cells #[.slice A0 3 c0, .slice A1 3 c1] 66)) = w2 at *
  have k0 := cell_of_blk hV1 (j := 0) rfl
  have k1 := cell_of_blk hV1 (j := 1) rfl
  have k2 := cell_of_blk hV1 (j := 2) rfl
  have k3 := cell_of_blk hV1 (j := 3) rfl
  have k4 := cell_of_blk hV1 (j := 4) rfl
  have k5 := cell_of_blk hV1 (j := 5) rfl
  have k6 := cell_of_blk hV1 (j := 6) rfl
  have k7 := cell_of_blk hV1 (j := 7) rfl
  have q0 := cell_of_blk hV2 (j := 0) rfl
  have q1 := cell_of_blk hV2 (j := 1) rfl
  have H0 := Lib.hid (Kd.C_below h0 hb0)
  have H1 := Lib.hid (Kd.C_below h1 hb0)
  have HC := Lib.hid (Kd.C_below hC hb0)
  have HB0 := Lib.hid hb0
  have hz2b : w.heap.size ≤ w2.heap.size := by omega
  clear h0 h1 hb0
  have HS := Lib.hid (Below.refl w2.heap.size w2)
  have m1 : True := trivial
  go_wp2_with (first
    | (clear m1; go_at_call 10; refine (filter_Size.calls 10 6 ⟨#[]⟩ 0 0 ⟨#[]⟩ 0 0 A n [cIn, cIn] 3 _ HC.out hn (by decide +kernel)).mono ?_; rintro e w3 ⟨rfl, hB3⟩; have HS3 := Lib.hid hB3; have hV1n := (hB3.block w.heap.size (by omega)).trans hV1; have hV2n := (hB3.block (w.heap.size + 1) (by omega)).trans hV2; replace hz2 : w.heap.size + 2 ≤ w3.heap.size := Nat.le_trans hz2 hB3.size; clear hV1 hV2 k0 k1 k2 k3 k4 k5 k6 k7 q0 q1; have hV1 := hV1n; have hV2 := hV2n; clear hV1n hV2n; have k0 := cell_of_blk hV1 (j := 0) rfl; have k1 := cell_of_blk hV1 (j := 1) rfl; have k2 := cell_of_blk hV1 (j := 2) rfl; have k3 := cell_of_blk hV1 (j := 3) rfl; have k4 := cell_of_blk hV1 (j := 4) rfl; have k5 := cell_of_blk hV1 (j := 5) rfl; have k6 := cell_of_blk hV1 (j := 6) rfl; have k7 := cell_of_blk hV1 (j := 7) rfl; have q0 := cell_of_blk hV2 (j := 0) rfl; have q1 := cell_of_blk hV2 (j := 1) rfl; have m2 : True := trivial)
    | (clear m2; go_at_call 12; refine (filter_Depth.calls 10 6 ⟨#[]⟩ 0 0 ⟨#[]⟩ 0 0 A n [cIn, cIn] 2 _ (Kd.C_below HC.out HS3.out) hn (by decide +kernel)).mono ?_; rintro e w4 ⟨rfl, hB4⟩; have HS4 := Lib.hid (HS3.out.trans (hB4.mono HS3.out.size)); have hV1n := (hB4.block w.heap.size (by omega)).trans hV1; have hV2n := (hB4.block (w.heap.size + 1) (by omega)).trans hV2; replace hz2 : w.heap.size + 2 ≤ w4.heap.size := Nat.le_trans hz2 hB4.size; clear hV1 hV2 k0 k1 k2 k3 k4 k5 k6 k7 q0 q1; have hV1 := hV1n; have hV2 := hV2n; clear hV1n hV2n; have k0 := cell_of_blk hV1 (j := 0) rfl; have k1 := cell_of_blk hV1 (j := 1) rfl; have k2 := cell_of_blk hV1 (j := 2) rfl; have k3 := cell_of_blk hV1 (j := 3) rfl; have k4 := cell_of_blk hV1 (j := 4) rfl; have k5 := cell_of_blk hV1 (j := 5) rfl; have k6 := cell_of_blk hV1 (j := 6) rfl; have k7 := cell_of_blk hV1 (j := 7) rfl; have q0 := cell_of_blk hV2 (j := 0) rfl; have q1 := cell_of_blk hV2 (j := 1) rfl; have m3 : True := trivial)
    | (clear m3; go_at_call 41; refine Calls.mono (form_two A n _) ?_; rintro e w5 ⟨rfl, hB5⟩; have HS5 := Lib.hid (HS4.out.trans (hB5.mono HS4.out.size)); have hV1n := (hB5.block w.heap.size (by omega)).trans hV1; have hV2n := (hB5.block (w.heap.size + 1) (by omega)).trans hV2; replace hz2 : w.heap.size + 2 ≤ w5.heap.size := Nat.le_trans hz2 hB5.size; clear hV1 hV2 k0 k1 k2 k3 k4 k5 k6 k7 q0 q1; have hV1 := hV1n; have hV2 := hV2n; clear hV1n hV2n; have k0 := cell_of_blk hV1 (j := 0) rfl; have k1 := cell_of_blk hV1 (j := 1) rfl; have k2 := cell_of_blk hV1 (j := 2) rfl; have k3 := cell_of_blk hV1 (j := 3) rfl; have k4 := cell_of_blk hV1 (j := 4) rfl; have k5 := cell_of_blk hV1 (j := 5) rfl; have k6 := cell_of_blk hV1 (j := 6) rfl; have k7 := cell_of_blk hV1 (j := 7) rfl; have q0 := cell_of_blk hV2 (j := 0) rfl; have q1 := cell_of_blk hV2 (j := 1) rfl; have m4 : True := trivial)
    )
  go_ret
  exact ⟨rfl, HB0.out.trans (HS5.out.mono (by omega))⟩
end Go.Proofs.YthaofmbjkdikbaaDoor.F

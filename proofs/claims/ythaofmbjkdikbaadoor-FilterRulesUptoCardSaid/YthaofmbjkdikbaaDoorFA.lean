/- Filter: cmp.Compare, cmp.Or of three, payload.Compare, payload.Get, the document's Compare: their contracts. -/
import Derived.Test.YthaofmbjkdikbaaDoorProg
import Derived.WalkKit
import Derived.Test.YthaofmbjkdikbaaDoorPAllx0
import Derived.ProofKit
import Derived.Deep.QuietTactic
import Derived.BigQuiet
import Derived.StillTailTactics
import Derived.Sort.Grow
import Derived.Sort.Walk0
import Derived.Laws.Strings
import Derived.Shelf.SlSorted.Search
import Derived.Lib.Hide
import Derived.Lib.SliceRun
import Derived.Below
import Derived.RangeFuncRecord
import Derived.Shelf.Abstract
import Derived.IntWalk
import Derived.Shelf.SlicesQ.IndexFunc
import Derived.Test.YthaofmbjkdikbaaDoorShelf
import Derived.Test.YthaofmbjkdikbaaDoorWRepsOne
import Derived.Deep.AppendLies
import Derived.Deep.RegionLaw
import Derived.Deep.LoopGhost
import Derived.Deep.DeepCutAuto
import Derived.Test.YthaofmbjkdikbaaDoorWWords
import Derived.Test.YthaofmbjkdikbaaDoorWMore
namespace Go.Proofs.YthaofmbjkdikbaaDoor.V
open Go.RowKit Go.Lib Go.Proofs.YthaofmbjkdikbaaDoor.PAll
open Go.Sort Go.Shelf Go.Proofs.YthaofmbjkdikbaaDoorW.PrintWords
set_option linter.unusedVariables false

abbrev Va := S23
def cmpI (x y : Int) : Int := if x < y then -1 else if x > y then 1 else 0
/-- Texts, by their bytes. -/
def cmpS (x y : ByteArray) : Int := if Op.bytesLess x.toList y.toList = true then -1 else if (!(Op.bytesLess x.toList y.toList || x.toList == y.toList)) = true then 1 else 0
def orI (x y : Int) : Int := if x = 0 then y else x
/-- By kind, then number, then text. -/
def cmpV (x y : Va) : Int := orI (cmpI x.f0 y.f0) (orI (cmpI x.f1 y.f1) (cmpS x.f2 y.f2))
theorem nan_calls (x : Int) (w : World) : Calls Tryd.prog 44 #[.int .i64 x] w fun e w' => e = .returned (.bool false) ∧ w' = w := by
  go_enter Tryd.func44, Tryd.ntmps44
  go_wp2
  go_ret
  exact ⟨by simp, rfl⟩
theorem cmp_calls (x y : Int) (w : World) : Calls Tryd.prog 39 #[.int .i64 x, .int .i64 y] w fun e w' => e = .returned (.int .i64 (cmpI x y)) ∧ w' = w := by
  go_enter Tryd.func39, Tryd.ntmps39
  go_wp2_with (go_at_call 44; refine (nan_calls _ _).mono ?_; rintro e w' ⟨rfl, hw⟩; rw [hw])
  all_goals (go_ret; refine ⟨?_, rfl⟩; unfold cmpI; (repeat' split) <;> first | rfl | (exfalso; omega))
theorem nanS_calls (x : ByteArray) (w : World) : Calls Tryd.prog 45 #[.string x] w fun e w' => e = .returned (.bool false) ∧ w' = w := by
  go_enter Tryd.func45, Tryd.ntmps45
  go_wp2
  go_ret
  exact ⟨by simp, rfl⟩
set_option maxHeartbeats 1000000 in
theorem cmpS_calls (x y : ByteArray) (w : World) : Calls Tryd.prog 40 #[.string x, .string y] w fun e w' => e = .returned (.int .i64 (cmpS x y)) ∧ w' = w := by
  by_cases h1 : Op.bytesLess x.toList y.toList = true
  · have e : cmpS x y = -1 := by unfold cmpS; rw [if_pos h1]
    rw [e]
    clear e
    go_enter Tryd.func40, Tryd.ntmps40
    go_wp2_with (go_at_call 45; refine (nanS_calls _ _).mono ?_; rintro e w' ⟨rfl, hw⟩; rw [hw])
    all_goals (go_ret; exact ⟨rfl, rfl⟩)
  · have h1' : Op.bytesLess x.toList y.toList = false := by simpa using h1
    by_cases h2 : (x.toList == y.toList) = true
    · have e : cmpS x y = 0 := by unfold cmpS; rw [if_neg h1, if_neg (by rw [h2]; simp)]
      rw [e]
      clear e h1
      go_enter Tryd.func40, Tryd.ntmps40
      go_wp2_with (go_at_call 45; refine (nanS_calls _ _).mono ?_; rintro e w' ⟨rfl, hw⟩; rw [hw])
      all_goals (go_ret; exact ⟨rfl, rfl⟩)
    · have h2' : (x.toList == y.toList) = false := by simpa using h2
      have e : cmpS x y = 1 := by unfold cmpS; rw [if_neg h1, if_pos (by rw [h1', h2']; rfl)]
      rw [e]
      clear e h1 h2
      go_enter Tryd.func40, Tryd.ntmps40
      go_wp2_with (go_at_call 45; refine (nanS_calls _ _).mono ?_; rintro e w' ⟨rfl, hw⟩; rw [hw])
      all_goals (go_ret; exact ⟨rfl, rfl⟩)
theorem or_calls (b : Nat) (x y z : Int) (w : World) (h0 : w.cell? ⟨b, 0, none⟩ = some (.int .i64 x)) (h1 : w.cell? ⟨b, 1, none⟩ = some (.int .i64 y)) (h2 : w.cell? ⟨b, 2, none⟩ = some (.int .i64 z)) :
    Calls Tryd.prog 38 #[.slice (some ⟨b, 0, none⟩) 3 3] w fun e w' => e = .returned (.int .i64 (orI x (orI y z))) ∧ w' = w := by
  go_enter Tryd.func38, Tryd.ntmps38
  go_wp2
  go_loopw [8] (fun s wr => ∃ i : Nat, i ≤ 3 ∧ s = .int .i64 i ∧ wr = w ∧ (1 ≤ i → x = 0) ∧ (2 ≤ i → y = 0) ∧ (3 ≤ i → z = 0)) (fun s _ => 3 - (intOf s).toNat)
  case atStart => exact ⟨0, by omega, rfl, rfl, by omega, by omega, by omega⟩
  case round =>
    obtain ⟨i, hi, rfl, rfl, hx, hy, hz⟩ := hrel
    match i, hi with
    | 0, _ =>
      by_cases hc : x = 0
      · subst hc
        go_wp2
        exact ⟨⟨1, by simp⟩, by simp [intOf]⟩
      · have hb : (x != 0) = true := bne_iff_ne.mpr hc
        go_wp2
        all_goals (go_ret; exact ⟨by unfold orI; rw [if_neg hc]; rfl, rfl⟩)
    | 1, _ =>
      obtain rfl := hx (by omega)
      by_cases hc : y = 0
      · subst hc
        go_wp2
        exact ⟨⟨2, by simp⟩, by simp [intOf]⟩
      · have hb : (y != 0) = true := bne_iff_ne.mpr hc
        go_wp2
        all_goals (go_ret; exact ⟨by unfold orI; rw [if_pos rfl, if_neg hc]; rfl, rfl⟩)
    | 2, _ =>
      obtain rfl := hx (by omega)
      obtain rfl := hy (by omega)
      by_cases hc : z = 0
      · subst hc
        go_wp2
        exact ⟨⟨3, by simp⟩, by simp [intOf]⟩
      · have hb : (z != 0) = true := bne_iff_ne.mpr hc
        go_wp2
        all_goals (go_ret; exact ⟨by unfold orI; rw [if_pos rfl, if_pos rfl]; rfl, rfl⟩)
    | 3, _ =>
      obtain rfl := hx (by omega)
      obtain rfl := hy (by omega)
      obtain rfl := hz (by omega)
      go_wp2
      go_ret
      exact ⟨rfl, rfl⟩
theorem still_tail {P : Program} {id : Nat} {Q : Exit → Act → World → Prop} {a : Act} {w : World} {l : List Oper} (n : Nat) (hm : P.follows .mixedOrders = true) (hB : Region.lexTailB .any l.toArray n = true)
    (h : wpStill P l.toArray w.drew (fun a' => wpList P l.toArray Q (l.drop n) a' w.drew) (l.take n) a) : (Code.region id l.toArray true).wp P Q a w := wp_region_still_tail n hm hB h
theorem cell_of_blk {W : World} {b j : Nat} {cs : Array Value} {t : TypeId} {v : Value} (h : W.heap[b]? = some (.cells cs t (0, 0))) (hj : cs[j]? = some v) : W.cell? ⟨b, j, none⟩ = some v := by simp only [World.cell?, h]; exact hj
set_option maxRecDepth 100000 in
set_option maxHeartbeats 4000000 in
/-- The order of two values: in whatever world; blocks are laid. -/
theorem compare_calls (x y : Va) (W : World) : Calls Tryd.prog 27 #[.agg #[.int .i64 x.f0, .int .i64 x.f1, .string x.f2], .agg #[.int .i64 y.f0, .int .i64 y.f1, .string y.f2]] W fun e w' => e = .returned (.int .i64 (cmpV x y)) ∧ ∃ q os', w' = grow (W.drewN q) os' := by
  obtain ⟨x0, x1, x2⟩ := x
  obtain ⟨y0, y1, y2⟩ := y
  have C1 := fun W' => cmp_calls x0 y0 W'
  have C2 := fun W' => cmp_calls x1 y1 W'
  have C3 := fun W' => cmpS_calls x2 y2 W'
  have H1 : Hid (cmpV ⟨x0, x1, x2⟩ ⟨y0, y1, y2⟩ = orI (cmpI x0 y0) (orI (cmpI x1 y1) (cmpS x2 y2))) := Lib.hid rfl
  generalize cmpV ⟨x0, x1, x2⟩ ⟨y0, y1, y2⟩ = r at H1 ⊢
  generalize cmpI x0 y0 = a at C1 H1
  generalize cmpI x1 y1 = b at C2 H1
  generalize cmpS x2 y2 = c at C3 H1
  dsimp only
  have b0 : ((W.alloc (.cells #[.int .i64 x0, .int .i64 x1, .string x2] 23)).alloc (.cells #[.int .i64 y0, .int .i64 y1, .string y2] 23)).heap[W.heap.size]? = some (.cells #[.int .i64 x0, .int .i64 x1, .string x2] 23 (0, 0)) := (Below.heap_alloc _ _ _ (by simp)).trans (World.alloc_heap_new W _)
  have b1 : ((W.alloc (.cells #[.int .i64 x0, .int .i64 x1, .string x2] 23)).alloc (.cells #[.int .i64 y0, .int .i64 y1, .string y2] 23)).heap[W.heap.size + 1]? = some (.cells #[.int .i64 y0, .int .i64 y1, .string y2] 23 (0, 0)) := by have h := World.alloc_heap_new (W.alloc (.cells #[.int .i64 x0, .int .i64 x1, .string x2] 23)) (.cells #[.int .i64 y0, .int .i64 y1, .string y2] 23); rwa [World.size_alloc] at h
  go_enter Tryd.func27, Tryd.ntmps27
  go_wp2_with fail
  have k0 := cell_of_blk b0 (j := 0) rfl
  have k1 := cell_of_blk b0 (j := 1) rfl
  have k2 := cell_of_blk b0 (j := 2) rfl
  have k3 := cell_of_blk b1 (j := 0) rfl
  have k4 := cell_of_blk b1 (j := 1) rfl
  have k5 := cell_of_blk b1 (j := 2) rfl
  clear b0 b1
  generalize hW2 : ((W.alloc (.cells #[.int .i64 x0, .int .i64 x1, .string x2] 23)).alloc (.cells #[.int .i64 y0, .int .i64 y1, .string y2] 23)) = W2 at k0 k1 k2 k3 k4 k5 ⊢
  have HW2 := Lib.hid hW2
  clear hW2
  refine still_tail 15 (by kernel_rfl) (by kernel_rfl) ?_
  simp only [List.take_succ_cons, List.take_zero, List.drop_succ_cons, List.drop_zero]
  still_step
  still_step
  still_step
  still_step
  still_call (C1 _)
  still_step
  still_step
  still_step
  still_step
  still_call (C2 _)
  still_step
  still_step
  still_step
  still_step
  still_call (C3 _)
  refine wpStill_nil ?_
  go_wp2_with (go_at_call 38; refine (or_calls _ a b c _ ?o1 ?o2 ?o3).mono ?_; (case o1 => simp); (case o2 => simp); (case o3 => simp); rintro e W1 ⟨rfl, rfl⟩)
  go_ret
  exact ⟨by rw [H1.out]; rfl, 1, _, by rw [← HW2.out, alloc_eq_grow, alloc_eq_grow, alloc_eq_grow, grow_grow, grow_grow, drew_grow]; rfl⟩

abbrev Fi := S62
def encF (x : Fi) : List Value := [.string x.f0, .int .i64 x.f1.f0, .int .i64 x.f1.f1, .string x.f1.f2]
instance : Inhabited Fi := ⟨z62⟩
/-- The value of the first field of a name. -/
def getV (fs : List Fi) (name : ByteArray) : Option Va := (fs.find? fun f => f.f0.toList == name.toList).map (·.f1)
theorem fs_of_C {w : World} {A : Option Addr} {xs : List Fi} (h : Kd.C k62 w A xs.length xs) (hn : 0 < xs.length) :
    ∃ b off, A = some ⟨b, off, none⟩ ∧ b < w.heap.size ∧ ∀ j, j < xs.length → w.cell? ⟨b, off + j * 4, none⟩ = some (.string xs[j]!.f0) ∧ w.cell? ⟨b, off + j * 4 + 1, none⟩ = some (.int .i64 xs[j]!.f1.f0) ∧ w.cell? ⟨b, off + j * 4 + 2, none⟩ = some (.int .i64 xs[j]!.f1.f1) ∧ w.cell? ⟨b, off + j * 4 + 3, none⟩ = some (.string xs[j]!.f1.f2) := by
  obtain ⟨ad, rfl, h00, -⟩ := at_T62 h 0 (Int.le_refl _) (by omega)
  obtain ⟨b, off, sp⟩ := ad
  have hsp : sp = none := by
    cases sp with
    | none => rfl
    | some s =>
      simp only [Int.toNat_zero, Nat.zero_mul, Addr.add, if_true, World.cell?] at h00
      split at h00 <;> simp at h00
  subst hsp
  have hb : b < w.heap.size := World.block_lt_of_cell? w _ h00
  refine ⟨b, off, rfl, hb, fun j hj => ?_⟩
  obtain ⟨ad, e, h1, h2, h3, h4⟩ := at_T62 h (j : Int) (by omega) (by omega)
  cases e
  have ea : ((⟨b, off, none⟩ : Addr).add ((j : Int).toNat * 4)) = ⟨b, off + j * 4, none⟩ := by unfold Addr.add; split <;> simp_all
  rw [ea] at h1 h2 h3 h4
  have er : rd_T62 xs (j : Int) = xs[j]! := by unfold rd_T62; simp [hj]
  rw [er] at h1 h2 h3 h4
  exact ⟨h1, h2, h3, h4⟩
/-- The closure: has the field the name? -/
theorem pred_name (name : ByteArray) (B : Nat) (w : World) (hB : B < w.heap.size) (hcell : w.cell? ⟨B, 0, none⟩ = some (.string name)) :
    PredBelow Tryd.prog 37 #[.pointer (some ⟨B, 0, none⟩)] (fun x => .agg (encF x).toArray) (fun x => x.f0.toList == name.toList) w := fun W x hb => by
  have hc : W.cell? ⟨B, 0, none⟩ = some (.string name) := (hb.cell (p := ⟨B, 0, none⟩) hB).trans hcell
  have hBW : B < W.heap.size := Nat.lt_of_lt_of_le hB hb.size
  have hne : B ≠ W.heap.size := by omega
  show Calls Tryd.prog 37 #[.agg #[.string x.f0, .int .i64 x.f1.f0, .int .i64 x.f1.f1, .string x.f1.f2], .pointer (some ⟨B, 0, none⟩)] W _
  go_enter Tryd.func37, Tryd.ntmps37
  go_wp2
  all_goals (go_ret; exact ⟨rfl, hb.alloc hb.size _⟩)
/-- slices.IndexFunc on no field. -/
theorem index_none (A : Option Addr) (c : Nat) (fv : Value) (w : World) :
    Calls Tryd.prog 36 #[.slice A 0 c, fv] w fun e w' => e = .returned (.int .i64 (-1)) ∧ w' = w := by
  go_enter Tryd.func36, Tryd.ntmps36
  go_wp2
  go_loopg [5, 8] 0 (fun gg _ s8 wr => s8 = .int .i64 0 ∧ wr = w)
  case atStart => exact ⟨rfl, rfl⟩
  case round =>
    obtain ⟨rfl, rfl⟩ := hrel
    go_wp2
    go_ret
    exact ⟨rfl, rfl⟩
theorem idx_find {α : Type} [Inhabited α] (es : List α) (p : α → Bool) : (Lib.idxBy (fun _ y => p y) es default = -1 ∧ es.find? p = none) ∨ ∃ k, k < es.length ∧ Lib.idxBy (fun _ y => p y) es default = (k : Int) ∧ es.find? p = some es[k]! := by
  have h : ∀ (es : List α) (i : Nat), (Lib.idxByFrom (fun _ y => p y) default es i = -1 ∧ es.find? p = none) ∨ ∃ k, k < es.length ∧ Lib.idxByFrom (fun _ y => p y) default es i = ((i + k : Nat) : Int) ∧ es.find? p = some es[k]! := by
    intro es
    induction es with
    | nil => intro i; exact Or.inl ⟨rfl, rfl⟩
    | cons x r ih =>
      intro i
      unfold Lib.idxByFrom
      rw [List.find?_cons]
      by_cases hx : p x = true
      · rw [if_pos hx, hx]
        exact Or.inr ⟨0, by simp, rfl, rfl⟩
      · have hx' : p x = false := by simpa using hx
        rw [if_neg hx, hx']
        rcases ih (i + 1) with ⟨h1, h2⟩ | ⟨k, hk, h1, h2⟩
        · exact Or.inl ⟨h1, h2⟩
        · refine Or.inr ⟨k + 1, by simp; omega, by rw [h1]; congr 1; omega, ?_⟩
          rw [h2]; simp [hk]
  rcases h es 0 with h | ⟨k, hk, h1, h2⟩
  · exact Or.inl h
  · exact Or.inr ⟨k, hk, by rw [Nat.zero_add] at h1; exact h1, h2⟩
def vOf (o : Option Va) : Value := .tuple #[.agg #[.int .i64 (o.getD z23).f0, .int .i64 (o.getD z23).f1, .string (o.getD z23).f2], .bool o.isSome]
def GOut (w : World) (o : Option Va) (e : Ending) (w' : World) : Prop := e = .returned (vOf o) ∧ Below w.heap.size w w'
theorem zeroV : (⟨#[]⟩ : ByteArray) = ByteArray.empty := rfl
set_option maxHeartbeats 2000000 in
theorem get_calls (A : Option Addr) (c : Nat) (fs : List Fi) (name : ByteArray) (w : World) (hC : Kd.C k62 w A fs.length fs) (hc0 : fs.length ≤ c) (hn : fs.length ≤ 1073741824) :
    Calls Tryd.prog 26 #[.slice A fs.length c, .string name] w (GOut w (getV fs name)) := by
  have HC := Lib.hid hC
  clear hC
  have b0 : ((w.alloc (.cells #[.string name] 9)).alloc (.cells #[.int .i64 0, .int .i64 0, .string ⟨#[]⟩] 23)).heap[w.heap.size]? = some (.cells #[.string name] 9 (0, 0)) := (Below.heap_alloc _ _ _ (by simp)).trans (World.alloc_heap_new w _)
  have b1 : ((w.alloc (.cells #[.string name] 9)).alloc (.cells #[.int .i64 0, .int .i64 0, .string ⟨#[]⟩] 23)).heap[w.heap.size + 1]? = some (.cells #[.int .i64 0, .int .i64 0, .string ⟨#[]⟩] 23 (0, 0)) := by have h := World.alloc_heap_new (w.alloc (.cells #[.string name] 9)) (.cells #[.int .i64 0, .int .i64 0, .string ⟨#[]⟩] 23); rwa [World.size_alloc] at h
  have hB0 : Below w.heap.size w ((w.alloc (.cells #[.string name] 9)).alloc (.cells #[.int .i64 0, .int .i64 0, .string ⟨#[]⟩] 23)) := ((Below.refl _ w).alloc (Nat.le_refl _) _).alloc (by simp) _
  have hz : w.heap.size + 2 ≤ ((w.alloc (.cells #[.string name] 9)).alloc (.cells #[.int .i64 0, .int .i64 0, .string ⟨#[]⟩] 23)).heap.size := by simp
  have hcell := cell_of_blk b0 (j := 0) rfl
  have HC2 := Lib.hid (Kd.C_below HC.out hB0)
  go_enter Tryd.func26, Tryd.ntmps26
  go_wp2_with fail
  generalize ((w.alloc (.cells #[.string name] 9)).alloc (.cells #[.int .i64 0, .int .i64 0, .string ⟨#[]⟩] 23)) = W2 at *
  have HW : ∀ w3, Below W2.heap.size W2 w3 → w3.heap[w.heap.size + 1]? = some (.cells #[.int .i64 0, .int .i64 0, .string ⟨#[]⟩] 23 (0, 0)) ∧ Below w.heap.size w w3 := fun w3 hb => ⟨(hb.block _ (by omega)).trans b1, hB0.trans (hb.mono (by omega))⟩
  have HHW := Lib.hid HW
  have CI : Calls Tryd.prog 36 #[.slice A fs.length c, .func (.func 37) #[] #[.pointer (some ⟨w.heap.size, 0, none⟩)]] W2 fun e w' => ((e = .returned (.int .i64 (-1)) ∧ fs.find? (fun f => f.f0.toList == name.toList) = none) ∨ ∃ k, k < fs.length ∧ e = .returned (.int .i64 k) ∧ fs.find? (fun f => f.f0.toList == name.toList) = some fs[k]!) ∧ Below W2.heap.size W2 w' := by
    by_cases h0 : 0 < fs.length
    · obtain ⟨b, off, rfl, hb, hc⟩ := fs_of_C HC2.out h0
      have eg : ∀ args w, (callFunc 37 args).run Tryd.prog w = .ok (.enter 37 args) w := enters_of Tryd.func37 (by kernel_rfl) rfl
      have hcon := AnyQ.slices_IndexFunc Tryd.indexQ 4 Tryd.isAgg62 Tryd.sizeOf62 encF (fun _ => rfl) (fun x => x.f0.toList == name.toList) 37 #[.pointer (some ⟨w.heap.size, 0, none⟩)] eg b off fs.length c fs W2
        (pred_name name w.heap.size W2 (by omega) hcell) (Nat.le_refl _) (by omega) hb (fun j hj i v hi => by
          have h1 := hc j hj
          generalize fs[j]! = y at hi h1
          match i, hi with
          | 0, hi => simp [encF] at hi; rw [← hi]; exact h1.1
          | 1, hi => simp [encF] at hi; rw [← hi]; exact h1.2.1
          | 2, hi => simp [encF] at hi; rw [← hi]; exact h1.2.2.1
          | 3, hi => simp [encF] at hi; rw [← hi]; exact h1.2.2.2
          | i + 4, hi => simp [encF] at hi)
      change Calls Tryd.prog 36 _ _ _ at hcon
      refine hcon.mono ?_
      rintro e w3 ⟨rfl, hb3⟩
      rw [List.take_length]
      rcases idx_find fs (fun f => f.f0.toList == name.toList) with ⟨e1, e2⟩ | ⟨k, hk, e1, e2⟩
      · exact ⟨.inl ⟨by rw [e1], e2⟩, hb3⟩
      · exact ⟨.inr ⟨k, hk, by rw [e1], e2⟩, hb3⟩
    · have e0 : fs = [] := List.eq_nil_of_length_eq_zero (by omega)
      subst e0
      refine (index_none A c _ _).mono ?_
      rintro e w3 ⟨rfl, rfl⟩
      exact ⟨.inl ⟨rfl, rfl⟩, Below.refl _ _⟩
  clear HW b0 b1 hB0 hz hcell HC
  refine CI.mono ?_
  clear CI
  rintro e w3 ⟨he, hb3⟩
  obtain ⟨hbk, hBw⟩ := HHW.out w3 hb3
  have HC3 := Lib.hid (Kd.C_below HC2.out hb3)
  have k0 := cell_of_blk hbk (j := 0) rfl
  have k1 := cell_of_blk hbk (j := 1) rfl
  have k2 := cell_of_blk hbk (j := 2) rfl
  have f0 : w3.frozen? ⟨w.heap.size + 1, 0, none⟩ = false := by simp [World.frozen?, hbk]
  have f1 : w3.frozen? ⟨w.heap.size + 1, 1, none⟩ = false := by simp [World.frozen?, hbk]
  have f2 : w3.frozen? ⟨w.heap.size + 1, 2, none⟩ = false := by simp [World.frozen?, hbk]
  have s0 : w3.shape? (w.heap.size + 1) = some (23, 3) := by simp [World.shape?, hbk]
  have HBW := Lib.hid hBw
  clear hb3 hbk hBw HHW HC2
  rcases he with ⟨rfl, hf⟩ | ⟨k, hk, rfl, hf⟩
  · have hg : getV fs name = none := by unfold getV; rw [hf]; rfl
    have HG := Lib.hid hg
    clear hf hg
    go_wp2_with fail
    refine bodyPost_ret (v := .tuple #[.agg #[.int .i64 0, .int .i64 0, .string ⟨#[]⟩], .bool false]) (by simp [results, Tryd.results26, go_sem, k0, k1, k2]) rfl ⟨by rw [HG.out]; rfl, ?_⟩
    exact ((HBW.out.setCell (by simp) _).setCell (by simp) _).setCell (by simp) _
  · have hg : getV fs name = some fs[k]!.f1 := by unfold getV; rw [hf]; rfl
    have HG := Lib.hid hg
    clear hg
    obtain ⟨b, off, rfl, -, hc⟩ := fs_of_C HC3.out (by omega)
    obtain ⟨-, m0, m1, m2⟩ := hc k hk
    generalize fs[k]! = y at m0 m1 m2 HG
    obtain ⟨yn, y0, y1, y2⟩ := y
    dsimp only at m0 m1 m2 HG
    have p0 : decide ((k : Int) < 0) = false := decide_eq_false (by omega)
    have p1 := eq_true (show (0 : Int) ≤ (k : Int) by omega)
    have p2 := eq_true (show (k : Int) < (fs.length : Int) by omega)
    have p3 : (k < fs.length) = True := eq_true hk
    clear hf hk hc
    go_wp2_with fail
    refine bodyPost_ret (v := .tuple #[.agg #[.int .i64 y0, .int .i64 y1, .string y2], .bool true]) (by simp [results, Tryd.results26, go_sem, k0, k1, k2]) rfl ⟨by rw [HG.out]; rfl, ?_⟩
    exact ((HBW.out.setCell (by simp) _).setCell (by simp) _).setCell (by simp) _
set_option maxRecDepth 100000 in
set_option maxHeartbeats 2000000 in
theorem cmp5_calls (x y : Va) (w : World) : Calls Tryd.prog 29 #[.agg #[.int .i64 x.f0, .int .i64 x.f1, .string x.f2], .agg #[.int .i64 y.f0, .int .i64 y.f1, .string y.f2]] w fun e w' => e = .returned (.int .i64 (cmpV x y)) ∧ Below w.heap.size w w' := by
  obtain ⟨x0, x1, x2⟩ := x
  obtain ⟨y0, y1, y2⟩ := y
  have hb1 : Below w.heap.size w (w.alloc (.cells #[.int .i64 x0, .int .i64 x1, .string x2] 23)) := (Below.refl _ w).alloc (Nat.le_refl _) _
  have hz1 : (w.alloc (.cells #[.int .i64 x0, .int .i64 x1, .string x2] 23)).heap.size = w.heap.size + 1 := by simp
  have hV1 := World.alloc_heap_new w (.cells #[.int .i64 x0, .int .i64 x1, .string x2] 23)
  have hb2 : Below w.heap.size w ((w.alloc (.cells #[.int .i64 x0, .int .i64 x1, .string x2] 23)).alloc (.cells #[.int .i64 y0, .int .i64 y1, .string y2] 23)) := hb1.alloc (by omega) _
  have hV2 : ((w.alloc (.cells #[.int .i64 x0, .int .i64 x1, .string x2] 23)).alloc (.cells #[.int .i64 y0, .int .i64 y1, .string y2] 23)).heap[w.heap.size]? = _ := (((Below.refl _ _).alloc (Nat.le_refl _) _).block _ (by omega)).trans hV1
  have hV3 := World.alloc_heap_new (w.alloc (.cells #[.int .i64 x0, .int .i64 x1, .string x2] 23)) (.cells #[.int .i64 y0, .int .i64 y1, .string y2] 23)
  rw [hz1] at hV3
  have hw : cmpV ⟨x0, x1, x2⟩ ⟨y0, y1, y2⟩ = orI (cmpI x0 y0) (orI (cmpI x1 y1) (cmpS x2 y2)) := rfl
  have HW := Lib.hid hw
  clear hw
  generalize cmpV ⟨x0, x1, x2⟩ ⟨y0, y1, y2⟩ = r at *
  clear hV1 hV2 hV3
  go_enter Tryd.func29, Tryd.ntmps29
  go_wp2_with fail
  all_goals
    go_ret
    refine ⟨?_, hb2⟩
    have hr := HW.out
    unfold orI cmpI cmpS at hr
    clear HW hb1 hb2 hz1
    subst hr
    congr 2
    (repeat' split) <;> first | rfl | (exfalso; omega) | (simp_all; done)
end Go.Proofs.YthaofmbjkdikbaaDoor.V
